/- General lemmas of this seat's proofs, in one text. -/
import Derived.Laws.RangeAny
import Derived.Laws.RangeString
import Derived.Below
import Derived.WalkKit
import Derived.Test.YtaphehdbjbogaaaVSiphonStays
import Derived.RangeFuncNested
import Derived.RangeFuncBound
import Derived.RangeFuncCalls
import Derived.RangeFuncLeaves
import Derived.RangeFuncWrites
import Derived.RangeFuncBox
import Derived.Shelf.Abstract
import Derived.OwnWalkIn
import Derived.TacticsInMore
import Derived.LoopNIn
import Derived.LoopIn
import Derived.Maps.AppendAt
import Derived.Lib.Hide
import Derived.IntWalk
import Derived.Laws.CopyOwn
import Derived.Deep.RegionLaw
import Derived.OrdersIn
import Derived.Laws.Bits64
import Derived.Test.YtaphehdbjbogaaaProg
/- Valid names, told of bytes: what a walk over a string's runes and a look at its bytes say. -/
namespace Go.Proofs.Ytaphehdbjbogaaa.Names
set_option linter.unusedVariables false
set_option linter.unusedSimpArgs false
open Go.RowKit

/-- A byte that may begin a name. -/
def letterB (c : Nat) : Bool := (decide (97 ≤ c) && decide (c ≤ 122)) || decide (c = 95)
/-- A byte that may stand at place i of a name. -/
def okB (i c : Nat) : Bool := letterB c || (decide (0 < i) && ((decide (48 ≤ c) && decide (c ≤ 57)) || decide (c = 46)))
def byteAt (s : ByteArray) (i : Nat) : Nat := (s.data.toList[i]?.getD 0).toNat
def nameB (s : ByteArray) : Bool := decide (1 ≤ s.size) && decide (s.size ≤ 16) && (List.range s.size).all fun i => okB i (byteAt s i)

theorem byteAt_get (s : ByteArray) (i : Nat) (h : i < s.size) : byteAt s i = (s[i]'h).toNat := by
  have h' : i < s.data.toList.length := by simpa using h
  unfold byteAt
  rw [List.getElem?_eq_getElem h']
  rfl
theorem below_iter (w : World) (s : ByteArray) (pos : Nat) : Below w.heap.size w (w.iter s pos) := (Below.refl _ w).alloc (Nat.le_refl _) _

/-- What the round at place pos meets: the rune, and how far it goes on. -/
theorem rune_low (s : ByteArray) (pos : Nat) (h : pos < s.size) (ha : byteAt s pos < 128) : Utf8.decode s pos = (byteAt s pos, 1) := by
  rw [byteAt_get s pos h] at ha ⊢
  exact decode_ascii s pos h ha
theorem rune_high (s : ByteArray) (pos : Nat) (h : pos < s.size) (ha : ¬ byteAt s pos < 128) : 128 ≤ (Utf8.decode s pos).1 := by
  rw [byteAt_get s pos h] at ha
  exact (decode_high s pos h (by omega)).1
theorem okB_high {i c : Nat} (h : ¬ c < 128) : okB i c = false := by
  have h1 : ¬ c ≤ 122 := by omega
  have h2 : ¬ c = 95 := by omega
  have h3 : ¬ c ≤ 57 := by omega
  have h4 : ¬ c = 46 := by omega
  simp [okB, letterB, h1, h2, h3, h4]
theorem nameB_false {s : ByteArray} {i : Nat} (h : i < s.size) (hk : okB i (byteAt s i) = false) : nameB s = false := by
  cases hn : nameB s with
  | false => rfl
  | true =>
    unfold nameB at hn
    simp only [Bool.and_eq_true, List.all_eq_true, List.mem_range] at hn
    rw [hn.2 i h] at hk; cases hk
theorem nameB_true {s : ByteArray} (h1 : 1 ≤ s.size) (h2 : s.size ≤ 16) (h : ∀ i, i < s.size → okB i (byteAt s i) = true) : nameB s = true := by
  unfold nameB
  simp only [Bool.and_eq_true, List.all_eq_true, List.mem_range, decide_eq_true_eq]
  exact ⟨⟨h1, h2⟩, h⟩
theorem okB_of {i c : Nat} (h : (97 ≤ c ∧ c ≤ 122) ∨ c = 95 ∨ (0 < i ∧ ((48 ≤ c ∧ c ≤ 57) ∨ c = 46))) : okB i c = true := by
  simp only [okB, letterB, Bool.or_eq_true, Bool.and_eq_true, decide_eq_true_eq]
  omega
theorem okB_not {i c : Nat} (h : ¬ ((97 ≤ c ∧ c ≤ 122) ∨ c = 95 ∨ (0 < i ∧ ((48 ≤ c ∧ c ≤ 57) ∨ c = 46)))) : okB i c = false := by
  cases hk : okB i c with
  | false => rfl
  | true =>
    simp only [okB, letterB, Bool.or_eq_true, Bool.and_eq_true, decide_eq_true_eq] at hk
    omega
end Go.Proofs.Ytaphehdbjbogaaa.Names

/- Functions with rounds: what they answer from some number of rounds on. -/
namespace Go.Proofs.Ytaphehdbjbogaaa.Evs
set_option linter.unusedVariables false
open Go.RowKit Go.Proofs.YtaphehdbjbogaaaW.PrintWords Go.Proofs.YtaphehdbjbogaaaW.PrintLast Go.Proofs.YtaphehdbjbogaaaW.PrintMore

theorem Ev.succ {α : Type} {g : Nat → Option α} {r : α} (h : Ev (fun k => g (k + 1)) r) : Ev g r := Ev.step (fun _ => rfl) h
theorem Ev.same {α : Type} {r : α} {g : Nat → Option α} (h : g = fun _ => some r) : Ev g r := by rw [h]; exact Ev.now r
theorem Ev.pos {α : Type} {c : Prop} [Decidable c] {f g : Nat → Option α} {r : α} (hc : c) (h : Ev f r) : Ev (fun k => if c then f k else g k) r := Ev.congr (fun _ => if_pos hc) h
theorem Ev.neg {α : Type} {c : Prop} [Decidable c] {f g : Nat → Option α} {r : α} (hc : ¬ c) (h : Ev g r) : Ev (fun k => if c then f k else g k) r := Ev.congr (fun _ => if_neg hc) h
theorem Ev.ite {α : Type} {c : Prop} [Decidable c] {f g : Nat → Option α} {r : α} (h1 : c → Ev f r) (h2 : ¬ c → Ev g r) : Ev (fun k => if c then f k else g k) r := if h : c then Ev.pos h (h1 h) else Ev.neg h (h2 h)
theorem Ev.val {α : Type} {r r' : α} (h : r' = r) : Ev (fun _ : Nat => some r') r := h ▸ Ev.now _
theorem wrap_pred {q : Nat} (h1 : 1 ≤ q) (h : q < 9223372036854775807) : wrap64 ((q : Int) - 1) = ((q - 1 : Nat) : Int) := by unfold wrap64; omega
theorem wrap_succ {i : Nat} (h : i < 9223372036854775807) : wrap64 ((i : Int) + 1) = ((i + 1 : Nat) : Int) := by unfold wrap64; omega
end Go.Proofs.Ytaphehdbjbogaaa.Evs

/- General lemmas on loops over iterator functions: what a box of the call's own keeps. -/
namespace Go.Proofs.Ytaphehdbjbogaaa.Iter
set_option linter.unusedVariables false
set_option linter.unusedSimpArgs false
open Go.RowKit Go.Shelf

/-- What lay below n lies as it lay, and the box B reads as it did. -/
def KpBox (n B : Nat) (t : TypeId) (v : Value) (W W' : World) : Prop := Below n W W' ∧ (Boxed W B t v → Boxed W' B t v)

theorem kpBox_t {n B : Nat} {t : TypeId} {v : Value} {X Y Z : World} (h : KpBox n B t v X Y) (k : KpBox n B t v Y Z) : KpBox n B t v X Z := ⟨h.1.trans k.1, fun b => k.2 (h.2 b)⟩
theorem kpBox_b {n B : Nat} {t : TypeId} {v : Value} {w : World} (hn : n ≤ w.heap.size) (W : World) (l : Nat) (o o' : Obj) (hl : w.heap.size ≤ l) (h : W.heap[l]? = some o) (hc : o.isCells = false) (hw : o.isWalk = false) : KpBox n B t v W (W.putObj l o') :=
  ⟨belowK_b hn W l o o' hl h hc hw, fun b => by
    refine Boxed.kept b (grownBy_putObj' W l o') ?_
    intro e
    cases e
    have b' : W.heap[B]? = some (.cells #[v] t (0, 0)) := b
    rw [b'] at h; cases h
    simp [Obj.isCells] at hc⟩
theorem copy_cells {w : World} {g n j : Nat} {e : TypeId} {xs : List Value} {z : Value} {cur : Array Value} (hn : xs.length = n) (hj : j ≤ n) (htk : cur.toList.take ((n + 1) * 1) = xs ++ [z])
    (hg : w.heap[g]? = some (.cells cur e (0, 0))) : ∀ (q : Nat) (v : Value), (xs.drop j)[q]? = some v → w.cell? ((⟨g, j, none⟩ : Addr).add q) = some v := by
  intro q v hq
  have hq' : j + q < xs.length := by
    have h := (List.getElem?_eq_some_iff.1 hq).1
    simp at h; omega
  rw [List.getElem?_drop] at hq
  have h2 : cur.toList[j + q]? = some v := by
    have h3 : (cur.toList.take ((n + 1) * 1))[j + q]? = some v := by rw [htk, List.getElem?_append_left hq']; exact hq
    rw [List.getElem?_take] at h3
    split at h3
    · exact h3
    · cases h3
  have h4 : cur[j + q]? = some v := by simpa using h2
  rcases Nat.eq_zero_or_pos q with rfl | hp
  · simp only [Nat.add_zero] at h4
    simp [World.cell?, Addr.add, hg, h4]
  · have hq0 : ¬ q = 0 := by omega
    simp [World.cell?, Addr.add, hq0, hg, h4]
theorem splice_cell {w : World} {g j : Nat} {e : TypeId} {L : List Value} (hg : w.heap[g]? = some (.cells L.toArray e (0, 0))) (hj : j < L.length) : (∃ v, w.cell? ⟨g, j, none⟩ = some v) ∧ w.frozen? ⟨g, j, none⟩ = false := by
  refine ⟨⟨L[j], ?_⟩, ?_⟩
  · simp [World.cell?, hg, hj]
  · simp [World.frozen?, hg]
/-- A cell put into a row of the call's own behind a shift of what follows: 'copy(out[i+1:], out[i:]); out[i] = x'. -/
theorem insert_row {w2 : World} {base g cap n i : Nat} {e : TypeId} {xs : List Value} {z x : Value} {cur : Array Value}
    (hb : base ≤ g) (hn : xs.length = n) (hi : i ≤ n) (hcap : n + 1 ≤ cap) (hm : cap ≤ maxLen) (hsz : cur.size = cap * 1) (htk : cur.toList.take ((n + 1) * 1) = xs ++ [z])
    (hg : w2.heap[g]? = some (.cells (splice cur.toList (i + 1) (xs.drop i)).toArray e (0, 0))) :
    (w2.setCell ⟨g, i, none⟩ x).ownsRow base e 1 (.slice (some ⟨g, 0, none⟩) (n + 1) cap) (n + 1) (xs.take i ++ x :: xs.drop i) := by
  have hcl : cur.toList.length = cap := by simpa using hsz
  have hsl : (splice cur.toList (i + 1) (xs.drop i)).length = cap := by
    unfold splice
    simp [hcl, hn]
    omega
  have hset : (w2.setCell ⟨g, i, none⟩ x).heap[g]? = some (.cells ((splice cur.toList (i + 1) (xs.drop i)).toArray.setIfInBounds i x) e (0, 0)) := by
    obtain ⟨hlt, hk⟩ := Array.getElem?_eq_some_iff.1 hg
    show (w2.heap.modify g _)[g]? = _
    rw [Array.getElem?_eq_getElem (by rw [Array.size_modify]; exact hlt), Array.getElem_modify_self, hk]
    rfl
  refine ⟨by simp; omega, .inr ⟨g, cap, _, rfl, hb, hset, hcap, hm, by simp [hsl], ?_⟩⟩
  have hti : cur.toList.take (i + 1) = (xs ++ [z]).take (i + 1) := by
    rw [← htk, List.take_take]; congr 1; omega
  simp only [Array.toList_setIfInBounds, Nat.mul_one]
  unfold splice
  rw [hti]
  apply List.ext_getElem?
  intro j
  simp only [List.getElem?_take, List.getElem?_set, List.getElem?_append, List.length_append, List.length_take, List.length_cons, List.length_nil, List.length_drop, List.getElem?_drop, List.getElem?_cons]
  by_cases hj : j < n + 1
  · rw [if_pos hj]
    by_cases hji : i = j
    · subst hji
      have a1 : i < min (i + 1) (xs.length + (0 + 1)) + (xs.length - i + (cur.toList.length - (i + 1 + (xs.length - i)))) := by omega
      rw [if_pos rfl, if_pos a1]
      have a2 : ¬ i < min i xs.length := by omega
      have a3 : i - min i xs.length = 0 := by omega
      rw [if_neg a2, if_pos a3]
    · rw [if_neg hji]
      by_cases hlt : j < i
      · rw [if_pos (by omega : j < min (i + 1) (xs.length + (0 + 1))), if_pos (by omega : j < i + 1), if_pos (by omega : j < xs.length), if_pos (by omega : j < min i xs.length), if_pos hlt]
      · rw [if_neg (by omega : ¬ j < min (i + 1) (xs.length + (0 + 1))), if_pos (by omega : j - min (i + 1) (xs.length + (0 + 1)) < xs.length - i), if_neg (by omega : ¬ j < min i xs.length), if_neg (by omega : ¬ j - min i xs.length = 0)]
        congr 1
        omega
  · rw [if_neg hj, if_neg (by omega : ¬ j < min i xs.length), if_neg (by omega : ¬ j - min i xs.length = 0)]
    symm
    apply List.getElem?_eq_none
    omega

end Go.Proofs.Ytaphehdbjbogaaa.Iter

/- Rows of rows of the call's own within a loop over an iterator: append, and what the loop's book-keeping leaves. -/
namespace Go.Proofs.Ytaphehdbjbogaaa.Iter
set_option linter.unusedVariables false
set_option linter.unusedSimpArgs false
open Go.RowKit Go.Shelf Go.Proofs.YtaphehdbjbogaaaW.PrintWords Go.Proofs.YtaphehdbjbogaaaW.PrintLast

theorem wpListIn_append_at {F : Fence} {n : Nat} {P : Program} (w : World) {ops : Array Oper} {rest : List Oper} {o : Oper} {a : Act} {Q : Exit → Act → World → Prop}
    (hg : o.guard = none) (s x : Operand) (t : TypeId) (hop : o.op = Op.call { callee := Callee.builtin Builtin.append, args := #[s, x], argTypes := #[t, t] })
    (base : Nat) (e : TypeId) (i : TypeInfo) (z : Value) (size bytes : Nat) (h1 : P.underlying t = some (.slice e)) (h2 : P.info? e = some i) (h3 : i.zero = some z) (h4 : i.size = size) (h5 : i.bytes = bytes) (h6 : z.cells.size = size) (h7 : 0 < size)
    (v : Value) (k : Nat) (xs : List Value) (hs : a.eval s = v) (hown : w.ownsRow base e size v k xs) (ad : Addr) (m c : Nat) (news : List Value) (hx : a.eval x = .slice (some ad) m c) (hn : news.length = m * size)
    (hc : ∀ j u, news[j]? = some u → w.cell? (ad.add j) = some u) (h1c : ∀ u ∈ news, u.oneCell' = true) (b1 : k + m ≤ maxLen) (b2 : (k + m) * bytes ≤ 140737488355328) (b3 : base ≤ w.heap.size)
    (hK : ∀ v' w', w'.ownsRow base e size v' (k + m) (xs ++ news) → w.grownBy w' v.ownBlock → (v'.ownBlock = v.ownBlock ∨ v'.ownBlock = some w.heap.size) → wpListIn F n P ops Q rest (a.put o.dst v') w') :
    wpListIn F n P ops Q (o :: rest) a w := by
  refine wpListIn_plain hg fun K hK' => ?_
  obtain ⟨v', w', hrun, r1, r2, r3, r4⟩ := run_append_own_at (P := P) w base t o.type e i z size bytes h1 h2 h3 h4 h5 h6 h7 v k xs hown ad m c news hn hc h1c b1 b2 b3
  unfold Oper.wpIn
  refine ⟨?_, ?_⟩
  · simp [Oper.about, hop, resolve, Target.leads, Sem.run_pure]
  · rw [Oper.semAt_plain F _ _ (by rw [hop]; intro c hc'; cases hc')]
    simp [execOp, hop, resolve, invoke, builtin, hs, hx, hrun, Result.andThen]
    exact hK' _ _ (hK v' w' r1 r2 r4)

section
variable {F : Fence} {n : Nat} {P : Program} {ops : Array Oper} {rest : List Oper} {o : Oper} {a : Act} {Q : Exit → Act → World → Prop} {α : Type}
theorem R_appendIn (d : Kd α) {W : World} (base : Nat) (hgd : o.guard = none) (s x : Operand) (t e : TypeId) (z : Value) (bytes : Nat)
    (ho : o.op = .call { callee := .builtin .append, args := #[s, x], argTypes := #[t, t] })
    (ht : P.underlying t = some (.slice e)) (hinfo : (P.info? e).map (fun i => (i.zero, i.size, i.bytes)) = some (some z, d.sz, bytes)) (hz : z.cells.size = d.sz) (hs0 : 0 < d.sz) (hb0 : 0 < bytes)
    (v : Value) (xs : List α) (p : α) (cs : List Value) (ok okp : Nat → Prop) (hs : a.eval s = v) (hx : a.eval x = .slice (some ⟨W.heap.size, 0, none⟩) 1 1) (hp : d.M W base okp p cs) (hokp : ∀ k, okp k → ok k ∧ some k ≠ v.ownBlock) (hfresh : ∀ k, W.heap.size ≤ k → ok k)
    (HO : d.R e W base ok v xs) (hbase : base ≤ W.heap.size) (hl : (xs.length + 1) * bytes ≤ 140737488355328)
    (h : ∀ v1 w1, d.R e w1 base ok v1 (xs ++ [p]) → (W.alloc (.cells cs.toArray e)).grownBy w1 v.ownBlock → (∃ g cap, v1 = .slice (some ⟨g, 0, none⟩) (xs.length + 1) cap) → wpListIn F n P ops Q rest (a.put o.dst v1) w1) :
    wpListIn F n P ops Q (o :: rest) a (W.alloc (.cells cs.toArray e)) := by
  obtain ⟨h0, inner, hown, hr⟩ := HO
  obtain ⟨i0, hi, hzz⟩ := Option.map_eq_some_iff.1 hinfo
  simp only [Prod.mk.injEq] at hzz
  obtain ⟨hz0, hz1, hz2⟩ := hzz
  have hlen : xs.length + 1 ≤ 140737488355328 := Nat.le_trans (Nat.le_mul_of_pos_right _ hb0) hl
  have hcs := d.K_len (d.K_of_M hp)
  refine wpListIn_append_at (W.alloc (.cells cs.toArray e)) hgd s x t ho base e i0 z d.sz bytes ht hi hz0 hz1 hz2 hz hs0 v xs.length inner hs (hown.alloc _) ⟨W.heap.size, 0, none⟩ 1 1 cs hx (by rw [hcs]; simp)
    (by simpa using World.news_of_block (cs := cs.toArray) (t := e) (fr := (0, 0)) (heap_alloc_new W (.cells cs.toArray e))) (d.K_one (d.K_of_M hp)) (by simp only [maxLen]; omega) hl (by simp; omega) ?_
  intro v1 w1 hown1 hg hat
  refine h v1 w1 (Kd.R_appended h0 hr hp hokp hfresh hown1 (World.grownBy.trans (World.grownBy_alloc W _ _) hg) ?_) hg (ownsRow_succ hown1)
  rcases hat with hat | hat
  · exact .inl hat
  · exact .inr ⟨_, hat, by simp⟩
end
/-- Rows of the call's own abide the turn of a block that is no cells. -/
theorem R_own {α β : Type} {d : β → Kd α} (e : Nat) (base : Nat) (ok : β → Nat → Prop) (v : β → Value) (xs : β → List α) : Own (fun s W => (d s).R e W base (ok s) (v s) (xs s)) := by
  intro s X Y row h hg hrow
  refine Kd.R_mono (Kd.R_step (Kd.R_bound h) (fun k hk hlt => ?_)) (fun _ hk => hk.1)
  obtain ⟨_, _, _, q, _, cells, hc⟩ := hk
  refine hg.block k hlt (fun he => ?_)
  obtain ⟨o, ho, hoc⟩ := hrow k he.symm
  rw [hc] at ho; cases ho; simp [Obj.isCells] at hoc
/-- A block of the call's own, whole. -/
def Blk (W : World) (B : Nat) (t : TypeId) (cs : List Value) : Prop := W.heap[B]? = some (.cells cs.toArray t (0, 0))
theorem blk_own {β : Type} (B : Nat) (t : TypeId) (f : β → List Value) : Own (fun s W => Blk W B t (f s)) := by
  intro s X Y row h hg hrow
  have h' : X.heap[B]? = some (.cells (f s).toArray t (0, 0)) := h
  refine (hg.block B (Array.getElem?_eq_some_iff.1 h').1 (fun he => ?_)).trans h'
  obtain ⟨o, ho, hoc⟩ := hrow B he.symm
  rw [h'] at ho; cases ho; simp [Obj.isCells] at hoc
theorem blk_set {W : World} {B : Nat} {t : TypeId} {cs : List Value} (i : Nat) (v : Value) (h : Blk W B t cs) : Blk (W.setCell ⟨B, i, none⟩ v) B t (cs.set i v) := by
  obtain ⟨hlt, hk⟩ := Array.getElem?_eq_some_iff.1 (show W.heap[B]? = _ from h)
  show (W.heap.modify B _)[B]? = _
  rw [Array.getElem?_eq_getElem (by rw [Array.size_modify]; exact hlt), Array.getElem_modify_self, hk]
  simp
theorem blk_other {W : World} {B : Nat} {t : TypeId} {cs : List Value} {p : Addr} (h : Blk W B t cs) (hne : B ≠ p.block) (v : Value) : Blk (W.setCell p v) B t cs := (Below.heap_setCell W p v B hne).trans h
theorem boxed_later {W W' : World} {B : Nat} {t : TypeId} {v : Value} (h : Boxed W B t v) (hb : Below W.heap.size W W') : Boxed W' B t v := (hb.block B h.lt).trans h
theorem blk_later {W W' : World} {B : Nat} {t : TypeId} {cs : List Value} (h : Blk W B t cs) (hb : Below W.heap.size W W') : Blk W' B t cs := (hb.block B (Array.getElem?_eq_some_iff.1 h).1).trans h
theorem keeps_later {W W' : World} (hb : Below W.heap.size W W') : KeepsOthers W W' := ⟨hb.size, fun k o hk _ => (hb.block k (Array.getElem?_eq_some_iff.1 hk).1).trans hk⟩
theorem Own.ex {β γ : Type} {I : γ → β → World → Prop} (h : ∀ c, Own (I c)) : Own (fun s W => ∃ c, I c s W) := by
  rintro s X Y row ⟨c, hc⟩ hg hr
  exact ⟨c, h c s X Y row hc hg hr⟩
theorem Own.and' {β : Type} {I J : β → World → Prop} (h : Own I) (k : Own J) : Own (fun s W => I s W ∧ J s W) := fun s X Y row hs hg hr => ⟨h s X Y row hs.1 hg hr, k s X Y row hs.2 hg hr⟩
theorem R_keeps {α : Type} {d : Kd α} {e base : Nat} {W3 w1 : World} {ok : Nat → Prop} {v : Value} {xs : List α} {tmp : Obj} (h : d.R e W3 base ok v xs) (hb : base ≤ W3.heap.size) (hg : (W3.alloc tmp).grownBy w1 v.ownBlock) : KeepsOthers W3 w1 ∧ Below base W3 w1 := by
  have hR := (Kd.R_bound h).1
  refine ⟨(KeepsOthers.alloc W3 tmp).trans (KeepsOthers.of_grownBy hg fun j o ej hj => ?_), ((Below.refl base W3).alloc hb tmp).grown hg (by simp; omega) (fun k ek => (hR k ek).2.1)⟩
  obtain ⟨_, _, hlt, q, _, cells, hc⟩ := hR j ej
  rw [Below.heap_alloc _ _ _ hlt, hc] at hj
  cases hj; rfl
theorem R_putObj {α : Type} {d : Kd α} {e base base' : Nat} {X : World} {ok : Nat → Prop} {v : Value} {xs : List α} {D : Nat} {o : Obj} (o' : Obj) (h : d.R e X base ok v xs) (hX : X.heap[D]? = some o) (hc : o.isCells = false) (hb : base' ≤ base) : d.R e (X.putObj D o') base' (fun _ => True) v xs := by
  have hf := Kd.R_step (Kd.R_bound h) (w1 := X.putObj D o') (fun k hk hlt => by
    refine (grownBy_putObj' X D o').block k hlt (fun e => ?_)
    cases e
    obtain ⟨_, _, _, q, _, cells, hcc⟩ := hk
    rw [hX] at hcc; cases hcc; simp [Obj.isCells] at hc)
  exact Kd.R_mono (Kd.R_lower hf hb) (fun _ _ => trivial)
/-! ### Results in boxes -/
/-! ### A region that draws its order, within a round -/
end Go.Proofs.Ytaphehdbjbogaaa.Iter

/- Sets of numbers below 64 as vectors of bits: what Go's operations on a uint64 say of them. -/
namespace Go.Proofs.Ytaphehdbjbogaaa.Bits
set_option linter.unusedVariables false
set_option linter.unusedSimpArgs false
open Go.RowKit Go.Proofs.YtaphehdbjbogaaaW.PrintWords Go.Proofs.YtaphehdbjbogaaaW.PrintLast Go.Proofs.YtaphehdbjbogaaaW.PrintMore

/-- A vector of bits as Go's number. -/
def U (v : BitVec 64) : Int := (v.toNat : Int)
theorem U_nonneg (v : BitVec 64) : 0 ≤ U v := Int.natCast_nonneg _
theorem U_lt (v : BitVec 64) : U v < 18446744073709551616 := by have := v.isLt; unfold U; omega
theorem U_inj {a b : BitVec 64} : U a = U b ↔ a = b := by
  constructor
  · intro h; apply BitVec.eq_of_toNat_eq; unfold U at h; omega
  · rintro rfl; rfl
theorem U_of {x : Int} (h : (Lit.int .u64 x).wf = true) : ∃ v, x = U v := by
  have hb : 0 ≤ x ∧ x < 18446744073709551616 := by
    simp [Lit.wf, IntKind.min, IntKind.max, IntKind.bits, IntKind.signed] at h
    omega
  refine ⟨BitVec.ofNat 64 x.toNat, ?_⟩
  unfold U
  rw [BitVec.toNat_ofNat]
  omega
theorem ofInt_U (v : BitVec 64) : BitVec.ofInt 64 (U v) = v := by
  unfold U
  rw [BitVec.ofInt_natCast]
  simp
theorem wrap_U (v : BitVec 64) : IntKind.u64.wrap (v.toNat : Int) = U v := by
  rw [IntKind.wrap_u64]; unfold U; have := v.isLt; omega
theorem bits_and (a b : BitVec 64) : Go.bits .and .u64 (U a) (U b) = U (a &&& b) := by
  show IntKind.u64.wrap ((BitVec.ofInt 64 (U a) &&& BitVec.ofInt 64 (U b)).toNat : Int) = _
  rw [ofInt_U, ofInt_U, wrap_U]
theorem bits_or (a b : BitVec 64) : Go.bits .or .u64 (U a) (U b) = U (a ||| b) := by
  show IntKind.u64.wrap ((BitVec.ofInt 64 (U a) ||| BitVec.ofInt 64 (U b)).toNat : Int) = _
  rw [ofInt_U, ofInt_U, wrap_U]
theorem bits_andNot (a b : BitVec 64) : Go.bits .andNot .u64 (U a) (U b) = U (a &&& ~~~b) := by
  show IntKind.u64.wrap ((BitVec.ofInt 64 (U a) &&& ~~~ BitVec.ofInt 64 (U b)).toNat : Int) = _
  rw [ofInt_U, ofInt_U, wrap_U]
theorem wrap_add (a b : BitVec 64) : IntKind.u64.wrap (U a + U b) = U (a + b) := by
  rw [IntKind.wrap_u64]; unfold U; rw [BitVec.toNat_add]; omega
theorem wrap_sub (a b : BitVec 64) : IntKind.u64.wrap (U a - U b) = U (a - b) := by
  rw [IntKind.wrap_u64]; unfold U; rw [BitVec.toNat_sub]
  have := a.isLt; have := b.isLt
  omega
theorem U_zero : U 0#64 = 0 := rfl
theorem U_one : U 1#64 = 1 := rfl
theorem U_eq_zero {a : BitVec 64} : U a = 0 ↔ a = 0#64 := by rw [← U_zero]; exact U_inj
/-- The set of one number. -/
def tp (i : Nat) : BitVec 64 := BitVec.twoPow 64 i
theorem U_tp {i : Nat} (h : i < 64) : U (tp i) = 2 ^ i := by
  unfold U tp
  rw [BitVec.toNat_twoPow]
  have : 2 ^ i < 2 ^ 64 := Nat.pow_lt_pow_right (by decide) h
  rw [Nat.mod_eq_of_lt this]
  exact Int.natCast_pow 2 i
theorem tp_bit (i j : Nat) : (tp i).getLsbD j = (decide (i < 64) && decide (i = j)) := by
  unfold tp; rw [BitVec.getLsbD_twoPow]
theorem shl_one {i : Nat} (h : i < 64) : shl .u64 1 (i : Int) = U (tp i) := by
  unfold shl
  have e : min ((i : Int)).toNat IntKind.u64.bits = i := by
    rw [Int.toNat_natCast]; exact Nat.min_eq_left (by simp [IntKind.bits]; omega)
  rw [e, Int.one_mul, ← U_tp h, IntKind.wrap_u64]
  have := U_lt (tp i); have := U_nonneg (tp i)
  omega
theorem wrap_idx {i : Int} (h0 : 0 ≤ i) (h1 : i < 64) : IntKind.u64.wrap i = i := by
  rw [IntKind.wrap_u64]; omega
theorem div_bit (a : BitVec 64) (i : Nat) : (U a / 2 ^ i) % 2 = (if a.getLsbD i then 1 else 0) := by
  unfold U
  rw [BitVec.getLsbD, Nat.testBit_eq_decide_div_mod_eq]
  have e : ((a.toNat : Int) / 2 ^ i) = ((a.toNat / 2 ^ i : Nat) : Int) := by rw [Int.natCast_ediv, Int.natCast_pow]; rfl
  rw [e]
  split <;> rename_i h <;> simp at h <;> omega
theorem div_U (a : BitVec 64) (i : Nat) : U a / 2 ^ i = U (a >>> i) := by
  unfold U
  rw [BitVec.toNat_ushiftRight, Nat.shiftRight_eq_div_pow, Int.natCast_ediv, Int.natCast_pow]; rfl
theorem bit_at (a : BitVec 64) (i : Nat) : (Go.bits .and .u64 (U a / 2 ^ i) 1 == 1) = a.getLsbD i := by
  rw [div_U, ← U_one, bits_and]
  have e : (a >>> i &&& 1#64) = if a.getLsbD i then 1#64 else 0#64 := by
    apply BitVec.eq_of_getLsbD_eq
    intro j hj
    rw [BitVec.getLsbD_and, BitVec.getLsbD_ushiftRight]
    by_cases h0 : j = 0
    · subst h0
      cases hb : a.getLsbD i <;> simp [hb]
    · have h1 : (1#64).getLsbD j = false := by rw [BitVec.getLsbD_one]; simp [h0]
      cases hb : a.getLsbD i <;> simp [h1]
  rw [e]
  cases a.getLsbD i <;> simp [U]
theorem shr_at {a : BitVec 64} {i : Nat} (h : i < 64) : shr .u64 (U a) (i : Int) = U a / 2 ^ i := by
  unfold shr
  have e : min ((i : Int)).toNat IntKind.u64.bits = i := by
    rw [Int.toNat_natCast]; exact Nat.min_eq_left (by simp [IntKind.bits]; omega)
  rw [e]

theorem ext_bit {a b : BitVec 64} (h : ∀ i, i < 64 → a.getLsbD i = b.getLsbD i) : a = b := BitVec.eq_of_getLsbD_eq h
/-- Nothing in common: the sum is the union. -/
theorem add_or {a b : BitVec 64} (h : a &&& b = 0#64) : a + b = a ||| b := BitVec.add_eq_or_of_and_eq_zero a b h
theorem add_tp {a : BitVec 64} {i : Nat} (h : a.getLsbD i = false) : a + tp i = a ||| tp i := by
  apply add_or
  apply ext_bit
  intro j hj
  rw [BitVec.getLsbD_and, tp_bit]
  by_cases e : i = j
  · subst e; simp [h]
  · simp [e]
/-- The elements below k, in order. -/
def els (a : BitVec 64) (k : Nat) : List Nat := (List.range k).filter (fun i => a.getLsbD i)
theorem mem_els {a : BitVec 64} {k i : Nat} : i ∈ els a k ↔ i < k ∧ a.getLsbD i = true := by simp [els]
end Go.Proofs.Ytaphehdbjbogaaa.Bits

/- The elements of a set, as the iterator of package bitset yields them. -/
namespace Go.Proofs.Ytaphehdbjbogaaa.Pr
open Go.RowKit Go.Shelf Go.Proofs.Ytaphehdbjbogaaa.Iter
set_option linter.unusedVariables false
set_option linter.unusedSimpArgs false
attribute [local go_sem] Oper.semAt_some

/-- Bit i of s, as the code asks for it. -/
def bitAt (s : Int) (i : Nat) : Bool := (Go.bits .and .u64 (s / 2 ^ i) 1) == 1
def elemsTo (s : Int) (k : Nat) : List Nat := (List.range k).filter (bitAt s)
theorem elemsTo_hit {s : Int} {k : Nat} (h : bitAt s k = true) : elemsTo s (k + 1) = elemsTo s k ++ [k] := by simp [elemsTo, List.range_succ, h]
theorem elemsTo_miss {s : Int} {k : Nat} (h : bitAt s k = false) : elemsTo s (k + 1) = elemsTo s k := by simp [elemsTo, List.range_succ, h]
theorem elemsTo_len (s : Int) (k : Nat) : (elemsTo s k).length ≤ k := by
  have := List.length_filter_le (bitAt s) (List.range k)
  simpa [elemsTo] using this

set_option maxHeartbeats 1000000 in
/-- elements(s): s is boxed; the function value captures the box. -/
theorem elements_in (F : Fence) (n : Nat) (hf : F.fn 85) (hro : F.round = none) (s : Int) (w : World) :
    CallsIn F n Try.prog 85 #[.int .u64 s] w fun e w' => e = .returned (.func (.func 86) #[] #[.pointer (some ⟨w.heap.size, 0, none⟩)]) ∧ w' = w.alloc (.cells #[.int .u64 s] 26) := by
  refine callsIn_of_wp Try.func85 rfl hf ?_ hro
  simp only [Try.ntmps85, List.size_toArray, List.length_cons, List.length_nil, Nat.reduceAdd, Nat.reduceSub, Array.replicate_succ, Array.replicate_zero, List.push_toArray, List.append_toArray, List.nil_append, List.cons_append]
  gi_wp2
  go_ret
  exact ⟨rfl, rfl⟩

set_option maxRecDepth 100000 in
set_option maxHeartbeats 2000000 in
/-- The closure: the elements below 64, in order, for every loop body that keeps the box of s. -/
theorem elements1_in (F : Fence) (n : Nat) (hf : F.fn 86) (hro : F.round = none) (hn : 1 ≤ n) (l B n₀ : Nat) (s : Int) (J Jx : List Nat → World → Prop)
    (hY : ∀ (pre : List Nat) (x : Nat) (W : World), J pre W → pre.length < 64 → YieldAt F (n - 1) Try.prog l #[.int .i64 (x : Int)] W fun e W' =>
      (e = .returned (.bool true) ∧ J (pre ++ [x]) W' ∧ KpBox n₀ B 26 (.int .u64 s) W W') ∨ (e = .returned (.bool false) ∧ Jx (pre ++ [x]) W'))
    (W : World) (hb : Boxed W B 26 (.int .u64 s)) (h0 : J [] W) :
    CallsIn F n Try.prog 86 #[.func (.yield l) #[] #[], .pointer (some ⟨B, 0, none⟩)] W fun e W' => (∃ v, e = .returned v) ∧
      ((∃ ys, ys = elemsTo s 64 ∧ J ys W') ∨ (∃ pre, (∃ k, k < 64 ∧ bitAt s k = true ∧ pre = elemsTo s (k + 1)) ∧ Jx pre W')) := by
  refine callsIn_of_wp Try.func86 rfl hf ?_ hro
  simp only [Try.ntmps86, List.size_toArray, List.length_cons, List.length_nil, Nat.reduceAdd, Nat.reduceSub, Array.replicate_succ, Array.replicate_zero, List.push_toArray, List.append_toArray, List.nil_append, List.cons_append]
  gi_wp2
  gi_loopw [3] (fun i wr => ∃ k : Nat, k ≤ 64 ∧ i = .int .i64 k ∧ J (elemsTo s k) wr ∧ Boxed wr B 26 (.int .u64 s))
    (fun i _ => 64 - (intOf i).toNat)
  case atStart => exact ⟨0, by omega, rfl, h0, hb⟩
  case round =>
    obtain ⟨k, hk, rfl, hJs, hbx⟩ := hrel
    have hc := hbx.cell
    by_cases hlt : k < 64
    · have hw1 : IntKind.u64.wrap (k : Int) = k := by unfold IntKind.wrap; simp [IntKind.bits, IntKind.signed]; omega
      cases hbit : bitAt s k with
      | true =>
        obtain ⟨fn, tmps, assign, body, hy, hR⟩ := hY _ k wr hJs (by have := elemsTo_len s k; omega)
        have hbb : (Go.bits .and .u64 (s / 2 ^ k) 1 == 1) = true := hbit
        have HB := Lib.hid hbit
        clear hbit
        gi_wp2
        refine hR.mono ?_
        rintro e W3 (⟨rfl, hJ3, hk3⟩ | ⟨rfl, hJx3⟩)
        · gi_wp2
          go_roundw
          case rel => exact ⟨k + 1, by omega, by simp, by rw [elemsTo_hit HB.out]; exact hJ3, hk3.2 hbx⟩
          case measure => simp [intOf]; omega
        · gi_wp2
          refine bodyPost_ret (results_none rfl _ _ _) rfl ?_
          exact ⟨⟨_, rfl⟩, .inr ⟨_, ⟨k, hlt, HB.out, (elemsTo_hit HB.out).symm⟩, hJx3⟩⟩
      | false =>
        have hbb : (Go.bits .and .u64 (s / 2 ^ k) 1 == 1) = false := hbit
        have HB := Lib.hid hbit
        clear hbit
        gi_wp2
        refine ⟨fun _ h => (by cases h), ?_⟩
        gi_wp2
        go_roundw
        case rel => exact ⟨k + 1, by omega, by simp, by rw [elemsTo_miss HB.out]; exact hJs, hbx⟩
        case measure => simp [intOf]; omega
    · obtain rfl : k = 64 := by omega
      gi_wp2
      go_end0
      exact ⟨⟨_, rfl⟩, .inl ⟨_, rfl, hJs⟩⟩

def SeqAll (s : Int) (ys : List Nat) : Prop := ys = elemsTo s 64
def SeqPart (s : Int) (pre : List Nat) : Prop := ∃ k, k < 64 ∧ bitAt s k = true ∧ pre = elemsTo s (k + 1)
theorem elements_stops (F : Fence) (n : Nat) (hf : F.fn 86) (hro : F.round = none) (hn : 1 ≤ n) (B n₀ : Nat) (s : Int) (w : World) (hb : Boxed w B 26 (.int .u64 s)) :
    SeqStopsK F n Try.prog 86 #[.pointer (some ⟨B, 0, none⟩)] (fun x : Nat => #[Value.int .i64 (x : Int)]) (KpBox n₀ B 26 (.int .u64 s)) (SeqAll s) (SeqPart s) 64 w := fun l J Jx W hW _ _ hY h0 =>
  elements1_in F n hf hro hn l B n₀ s J Jx hY W ((hW.block B hb.lt).trans hb) h0

end Go.Proofs.Ytaphehdbjbogaaa.Pr

/- The parts of a text between separators, by bytes. -/
namespace Go.Proofs.Ytaphehdbjbogaaa.Parts
set_option linter.unusedVariables false
set_option linter.unusedSimpArgs false

end Go.Proofs.Ytaphehdbjbogaaa.Parts

