/- General lemmas on loops over iterator functions: what a box of the call's own keeps. -/
import Derived.RangeFuncNested
import Derived.RangeFuncBound
import Derived.RangeFuncCalls
import Derived.RangeFuncLeaves
import Derived.RangeFuncWrites
import Derived.RangeFuncBox
import Derived.Shelf.Abstract
import Derived.WalkKit
import Derived.OwnWalkIn
import Derived.TacticsInMore
import Derived.LoopNIn
import Derived.LoopIn
import Derived.Maps.AppendAt
import Derived.Lib.Hide
import Derived.IntWalk
import Derived.Laws.CopyOwn
import Derived.Deep.RegionLaw
namespace Go.Proofs.Ytaofommgdgmncaa.Iter
set_option linter.unusedVariables false
set_option linter.unusedSimpArgs false
open Go.RowKit Go.Shelf

/-- What lay below n lies as it lay, and the box B reads as it did. -/
def KpBox (n B : Nat) (t : TypeId) (v : Value) (W W' : World) : Prop := Below n W W' ∧ (Boxed W B t v → Boxed W' B t v)

theorem kpBox_t {n B : Nat} {t : TypeId} {v : Value} {X Y Z : World} (h : KpBox n B t v X Y) (k : KpBox n B t v Y Z) : KpBox n B t v X Z := ⟨h.1.trans k.1, fun b => k.2 (h.2 b)⟩
theorem kpBox_b {n B : Nat} {t : TypeId} {v : Value} {w : World} (hn : n ≤ w.heap.size) (W : World) (l : Nat) (o o' : Obj) (hl : w.heap.size ≤ l) (h : W.heap[l]? = some o) (hc : o.isCells = false) (hw : o.isWalk = false) : KpBox n B t v W (W.putObj l o') :=
  ⟨belowK_b hn W l o o' hl h hc hw, fun b => by
    refine Boxed.kept b (grownBy_putObj' W l o') ?_
    intro e
    cases e
    have b' : W.heap[B]? = some (.cells #[v] t (0, 0)) := b
    rw [b'] at h; cases h
    simp [Obj.isCells] at hc⟩
theorem kpBox_refl (n B : Nat) (t : TypeId) (v : Value) (W : World) : KpBox n B t v W W := ⟨Below.refl _ _, fun b => b⟩

theorem copy_cells {w : World} {g n j : Nat} {e : TypeId} {xs : List Value} {z : Value} {cur : Array Value} (hn : xs.length = n) (hj : j ≤ n) (htk : cur.toList.take ((n + 1) * 1) = xs ++ [z])
    (hg : w.heap[g]? = some (.cells cur e (0, 0))) : ∀ (q : Nat) (v : Value), (xs.drop j)[q]? = some v → w.cell? ((⟨g, j, none⟩ : Addr).add q) = some v := by
  intro q v hq
  have hq' : j + q < xs.length := by
    have h := (List.getElem?_eq_some_iff.1 hq).1
    simp at h; omega
  rw [List.getElem?_drop] at hq
  have h2 : cur.toList[j + q]? = some v := by
    have h3 : (cur.toList.take ((n + 1) * 1))[j + q]? = some v := by rw [htk, List.getElem?_append_left hq']; exact hq
    rw [List.getElem?_take] at h3
    split at h3
    · exact h3
    · cases h3
  have h4 : cur[j + q]? = some v := by simpa using h2
  rcases Nat.eq_zero_or_pos q with rfl | hp
  · simp only [Nat.add_zero] at h4
    simp [World.cell?, Addr.add, hg, h4]
  · have hq0 : ¬ q = 0 := by omega
    simp [World.cell?, Addr.add, hq0, hg, h4]
theorem splice_cell {w : World} {g j : Nat} {e : TypeId} {L : List Value} (hg : w.heap[g]? = some (.cells L.toArray e (0, 0))) (hj : j < L.length) : (∃ v, w.cell? ⟨g, j, none⟩ = some v) ∧ w.frozen? ⟨g, j, none⟩ = false := by
  refine ⟨⟨L[j], ?_⟩, ?_⟩
  · simp [World.cell?, hg, hj]
  · simp [World.frozen?, hg]
/-- 'copy' into a row that is known whole, as one step of a region that draws: no other block turns. -/
theorem step_copy_g {P : Program} {ops : Array Oper} {o : Oper} {a : Act} {w : World} {K : Act → World → Prop} {Q : Exit → Act → World → Prop} {E : Prop} (hgd : o.guard = none) (d s : Operand) (dT sT : TypeId)
    (ho : o.op = .call { callee := .builtin .copy, args := #[d, s], argTypes := #[dT, sT] }) (elem : TypeId) (hu : P.underlying dT = some (.slice elem)) (hsz : (P.info? elem).map (·.size) = some 1)
    (dp sp : Option Addr) (dLen dCap sLen sCap : Nat) (hd : a.eval d = .slice dp dLen dCap) (hs : a.eval s = .slice sp sLen sCap)
    (g off : Nat) (cur : List Value) (t : TypeId) (hg : w.heap[g]? = some (.cells cur.toArray t (0, 0))) (cs : List Value) (hn : cs.length = Nat.min sLen dLen)
    (hpos : 0 < cs.length → dp = some ⟨g, off, none⟩ ∧ ∃ ad, sp = some ad ∧ ∀ j v, cs[j]? = some v → w.cell? (ad.add j) = some v)
    (hfit : off + cs.length ≤ cur.length) (h1 : ∀ v ∈ cs, v.oneCell' = true)
    (h : ∀ w', RowKit.Hid (w'.heap[g]? = some (.cells (splice cur off cs).toArray t (0, 0))) → w.grownBy w' (some g) → K (a.put o.dst (goInt cs.length)) w') :
    if Region.wanted o (yielded ops a.tmps) = true then Oper.wp P o a w K Q else E := by
  have hw : Region.wanted o (yielded ops a.tmps) = true := by simp [Region.wanted, hgd]
  rw [if_pos hw]
  by_cases h0 : cs.length = 0
  · obtain rfl : cs = [] := List.eq_nil_of_length_eq_zero h0
    have hrun := run_copy_none (P := P) w dT sT o.type elem dp sp dLen dCap sLen sCap hu hsz (by simpa using hn.symm)
    unfold Oper.wp
    simp [execOp, ho, resolve, invoke, builtin, hd, hs, hrun, Result.andThen]
    exact h w (show _ = _ by simpa [splice] using hg) ⟨rfl, rfl, rfl, Nat.le_refl _, fun _ _ _ => rfl⟩
  · obtain ⟨rfl, ad, rfl, hsrc⟩ := hpos (by omega)
    have hrun := run_copy_row (P := P) w dT sT o.type elem g off dLen dCap ad sLen sCap cur.toArray t cs hu hsz hg hn hsrc (by simpa using hfit) h1
    unfold Oper.wp
    simp [execOp, ho, resolve, invoke, builtin, hd, hs, hrun, Result.andThen]
    exact h _ (show _ = _ by simpa [splice] using setRow_heap w g _ _ t _ hg) ⟨rfl, rfl, rfl, by simp [World.setRow], fun k _ hk => setRow_other w g k _ (fun e => hk (by rw [e]))⟩
/-- A cell put into a row of the call's own behind a shift of what follows: 'copy(out[i+1:], out[i:]); out[i] = x'. -/
theorem insert_row {w2 : World} {base g cap n i : Nat} {e : TypeId} {xs : List Value} {z x : Value} {cur : Array Value}
    (hb : base ≤ g) (hn : xs.length = n) (hi : i ≤ n) (hcap : n + 1 ≤ cap) (hm : cap ≤ maxLen) (hsz : cur.size = cap * 1) (htk : cur.toList.take ((n + 1) * 1) = xs ++ [z])
    (hg : w2.heap[g]? = some (.cells (splice cur.toList (i + 1) (xs.drop i)).toArray e (0, 0))) :
    (w2.setCell ⟨g, i, none⟩ x).ownsRow base e 1 (.slice (some ⟨g, 0, none⟩) (n + 1) cap) (n + 1) (xs.take i ++ x :: xs.drop i) := by
  have hcl : cur.toList.length = cap := by simpa using hsz
  have hsl : (splice cur.toList (i + 1) (xs.drop i)).length = cap := by
    unfold splice
    simp [hcl, hn]
    omega
  have hset : (w2.setCell ⟨g, i, none⟩ x).heap[g]? = some (.cells ((splice cur.toList (i + 1) (xs.drop i)).toArray.setIfInBounds i x) e (0, 0)) := by
    obtain ⟨hlt, hk⟩ := Array.getElem?_eq_some_iff.1 hg
    show (w2.heap.modify g _)[g]? = _
    rw [Array.getElem?_eq_getElem (by rw [Array.size_modify]; exact hlt), Array.getElem_modify_self, hk]
    rfl
  refine ⟨by simp; omega, .inr ⟨g, cap, _, rfl, hb, hset, hcap, hm, by simp [hsl], ?_⟩⟩
  have hti : cur.toList.take (i + 1) = (xs ++ [z]).take (i + 1) := by
    rw [← htk, List.take_take]; congr 1; omega
  simp only [Array.toList_setIfInBounds, Nat.mul_one]
  unfold splice
  rw [hti]
  apply List.ext_getElem?
  intro j
  simp only [List.getElem?_take, List.getElem?_set, List.getElem?_append, List.length_append, List.length_take, List.length_cons, List.length_nil, List.length_drop, List.getElem?_drop, List.getElem?_cons]
  by_cases hj : j < n + 1
  · rw [if_pos hj]
    by_cases hji : i = j
    · subst hji
      have a1 : i < min (i + 1) (xs.length + (0 + 1)) + (xs.length - i + (cur.toList.length - (i + 1 + (xs.length - i)))) := by omega
      rw [if_pos rfl, if_pos a1]
      have a2 : ¬ i < min i xs.length := by omega
      have a3 : i - min i xs.length = 0 := by omega
      rw [if_neg a2, if_pos a3]
    · rw [if_neg hji]
      by_cases hlt : j < i
      · rw [if_pos (by omega : j < min (i + 1) (xs.length + (0 + 1))), if_pos (by omega : j < i + 1), if_pos (by omega : j < xs.length), if_pos (by omega : j < min i xs.length), if_pos hlt]
      · rw [if_neg (by omega : ¬ j < min (i + 1) (xs.length + (0 + 1))), if_pos (by omega : j - min (i + 1) (xs.length + (0 + 1)) < xs.length - i), if_neg (by omega : ¬ j < min i xs.length), if_neg (by omega : ¬ j - min i xs.length = 0)]
        congr 1
        omega
  · rw [if_neg hj, if_neg (by omega : ¬ j < min i xs.length), if_neg (by omega : ¬ j - min i xs.length = 0)]
    symm
    apply List.getElem?_eq_none
    omega

/-- What lay below n lies as it lay, and each of the boxes reads as it did. -/
def BoxesIn (bs : List (Nat × TypeId × Value)) (W : World) : Prop := ∀ p ∈ bs, Boxed W p.1 p.2.1 p.2.2
def KpBs (n : Nat) (bs : List (Nat × TypeId × Value)) (W W' : World) : Prop := Below n W W' ∧ (BoxesIn bs W → BoxesIn bs W')
theorem kpBs_t {n : Nat} {bs : List (Nat × TypeId × Value)} {X Y Z : World} (h : KpBs n bs X Y) (k : KpBs n bs Y Z) : KpBs n bs X Z := ⟨h.1.trans k.1, fun b => k.2 (h.2 b)⟩
theorem boxed_putObj {W : World} {B : Nat} {t : TypeId} {v : Value} (b : Boxed W B t v) {l : Nat} {o : Obj} (o' : Obj) (h : W.heap[l]? = some o) (hc : o.isCells = false) : Boxed (W.putObj l o') B t v := by
  refine Boxed.kept b (grownBy_putObj' W l o') ?_
  intro e
  cases e
  have b' : W.heap[B]? = some (.cells #[v] t (0, 0)) := b
  rw [b'] at h; cases h
  simp [Obj.isCells] at hc
theorem kpBs_b {n : Nat} {bs : List (Nat × TypeId × Value)} {w : World} (hn : n ≤ w.heap.size) (W : World) (l : Nat) (o o' : Obj) (hl : w.heap.size ≤ l) (h : W.heap[l]? = some o) (hc : o.isCells = false) (hw : o.isWalk = false) : KpBs n bs W (W.putObj l o') :=
  ⟨belowK_b hn W l o o' hl h hc hw, fun b p hp => boxed_putObj (b p hp) o' h hc⟩
theorem kpBs_refl (n : Nat) (bs : List (Nat × TypeId × Value)) (W : World) : KpBs n bs W W := ⟨Below.refl _ _, fun b => b⟩

end Go.Proofs.Ytaofommgdgmncaa.Iter
