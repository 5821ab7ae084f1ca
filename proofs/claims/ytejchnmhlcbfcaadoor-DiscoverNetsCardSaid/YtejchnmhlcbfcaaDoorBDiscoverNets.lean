/- General lemmas of this seat's proofs, in one text. -/
import Derived.Laws.RangeAny
import Derived.Laws.RangeString
import Derived.Below
import Derived.WalkKit
import Derived.Test.YtejchnmhlcbfcaaDoorVDiscoverNets
import Derived.RangeFuncNested
import Derived.RangeFuncBound
import Derived.RangeFuncCalls
import Derived.RangeFuncLeaves
import Derived.RangeFuncWrites
import Derived.RangeFuncBox
import Derived.Shelf.Abstract
import Derived.OwnWalkIn
import Derived.TacticsInMore
import Derived.LoopNIn
import Derived.LoopIn
import Derived.Maps.AppendAt
import Derived.Lib.Hide
import Derived.IntWalk
import Derived.Laws.CopyOwn
import Derived.Deep.RegionLaw
import Derived.OrdersIn
import Derived.Laws.Bits64
import Derived.Laws.CopyRow
import Derived.Laws.IdiomCopy
/- Valid names, told of bytes: what a walk over a string's runes and a look at its bytes say. -/
namespace Go.Proofs.YtejchnmhlcbfcaaDoor.Names
set_option linter.unusedVariables false
set_option linter.unusedSimpArgs false
open Go.RowKit

/-- A byte that may begin a name. -/
def letterB (c : Nat) : Bool := (decide (97 ≤ c) && decide (c ≤ 122)) || decide (c = 95)
/-- A byte that may stand at place i of a name. -/
def okB (i c : Nat) : Bool := letterB c || (decide (0 < i) && ((decide (48 ≤ c) && decide (c ≤ 57)) || decide (c = 46)))
def byteAt (s : ByteArray) (i : Nat) : Nat := (s.data.toList[i]?.getD 0).toNat
def nameB (s : ByteArray) : Bool := decide (1 ≤ s.size) && decide (s.size ≤ 16) && (List.range s.size).all fun i => okB i (byteAt s i)

theorem byteAt_get (s : ByteArray) (i : Nat) (h : i < s.size) : byteAt s i = (s[i]'h).toNat := by
 have h' : i < s.data.toList.length := by simpa using h
 unfold byteAt
 rw [List.getElem?_eq_getElem h']
 rfl
theorem below_iter (w : World) (s : ByteArray) (pos : Nat) : Below w.heap.size w (w.iter s pos) := (Below.refl _ w).alloc (Nat.le_refl _) _

/-- What the round at place pos meets: the rune, and how far it goes on. -/
theorem rune_low (s : ByteArray) (pos : Nat) (h : pos < s.size) (ha : byteAt s pos < 128) : Utf8.decode s pos = (byteAt s pos, 1) := by
 rw [byteAt_get s pos h] at ha ⊢
 exact decode_ascii s pos h ha
theorem rune_high (s : ByteArray) (pos : Nat) (h : pos < s.size) (ha : ¬ byteAt s pos < 128) : 128 ≤ (Utf8.decode s pos).1 := by
 rw [byteAt_get s pos h] at ha
 exact (decode_high s pos h (by omega)).1
theorem okB_high {i c : Nat} (h : ¬ c < 128) : okB i c = false := by
 have h1 : ¬ c ≤ 122 := by omega
 have h2 : ¬ c = 95 := by omega
 have h3 : ¬ c ≤ 57 := by omega
 have h4 : ¬ c = 46 := by omega
 simp [okB, letterB, h1, h2, h3, h4]
theorem nameB_false {s : ByteArray} {i : Nat} (h : i < s.size) (hk : okB i (byteAt s i) = false) : nameB s = false := by
 cases hn : nameB s with
 | false => rfl
 | true =>
  unfold nameB at hn
  simp only [Bool.and_eq_true, List.all_eq_true, List.mem_range] at hn
  rw [hn.2 i h] at hk; cases hk
theorem nameB_true {s : ByteArray} (h1 : 1 ≤ s.size) (h2 : s.size ≤ 16) (h : ∀ i, i < s.size → okB i (byteAt s i) = true) : nameB s = true := by
 unfold nameB
 simp only [Bool.and_eq_true, List.all_eq_true, List.mem_range, decide_eq_true_eq]
 exact ⟨⟨h1, h2⟩, h⟩
theorem okB_of {i c : Nat} (h : (97 ≤ c ∧ c ≤ 122) ∨ c = 95 ∨ (0 < i ∧ ((48 ≤ c ∧ c ≤ 57) ∨ c = 46))) : okB i c = true := by
 simp only [okB, letterB, Bool.or_eq_true, Bool.and_eq_true, decide_eq_true_eq]
 omega
theorem okB_not {i c : Nat} (h : ¬ ((97 ≤ c ∧ c ≤ 122) ∨ c = 95 ∨ (0 < i ∧ ((48 ≤ c ∧ c ≤ 57) ∨ c = 46)))) : okB i c = false := by
 cases hk : okB i c with
 | false => rfl
 | true =>
  simp only [okB, letterB, Bool.or_eq_true, Bool.and_eq_true, decide_eq_true_eq] at hk
  omega
theorem is46 {c : Nat} (h : (!((c : Int) == 46)) = false) : c = 46 := by simp at h; omega
theorem not46 {c : Nat} (h : (!((c : Int) == 46)) = true) : ¬ c = 46 := by simp at h; omega
end Go.Proofs.YtejchnmhlcbfcaaDoor.Names

/- Functions with rounds: what they answer from some number of rounds on. -/
namespace Go.Proofs.YtejchnmhlcbfcaaDoor.Evs
set_option linter.unusedVariables false
open Go.RowKit Go.Proofs.YtejchnmhlcbfcaaDoorW.PrintWords Go.Proofs.YtejchnmhlcbfcaaDoorW.PrintLast Go.Proofs.YtejchnmhlcbfcaaDoorW.PrintMore

theorem Ev.succ {α : Type} {g : Nat → Option α} {r : α} (h : Ev (fun k => g (k + 1)) r) : Ev g r := Ev.step (fun _ => rfl) h
theorem Ev.same {α : Type} {r : α} {g : Nat → Option α} (h : g = fun _ => some r) : Ev g r := by rw [h]; exact Ev.now r
theorem Ev.pos {α : Type} {c : Prop} [Decidable c] {f g : Nat → Option α} {r : α} (hc : c) (h : Ev f r) : Ev (fun k => if c then f k else g k) r := Ev.congr (fun _ => if_pos hc) h
theorem Ev.neg {α : Type} {c : Prop} [Decidable c] {f g : Nat → Option α} {r : α} (hc : ¬ c) (h : Ev g r) : Ev (fun k => if c then f k else g k) r := Ev.congr (fun _ => if_neg hc) h
theorem Ev.ite {α : Type} {c : Prop} [Decidable c] {f g : Nat → Option α} {r : α} (h1 : c → Ev f r) (h2 : ¬ c → Ev g r) : Ev (fun k => if c then f k else g k) r := if h : c then Ev.pos h (h1 h) else Ev.neg h (h2 h)
theorem Ev.val {α : Type} {r r' : α} (h : r' = r) : Ev (fun _ : Nat => some r') r := h ▸ Ev.now _
theorem wrap_pred {q : Nat} (h1 : 1 ≤ q) (h : q < 9223372036854775807) : wrap64 ((q : Int) - 1) = ((q - 1 : Nat) : Int) := by unfold wrap64; omega
theorem wrap_succ {i : Nat} (h : i < 9223372036854775807) : wrap64 ((i : Int) + 1) = ((i + 1 : Nat) : Int) := by unfold wrap64; omega
theorem rdOf_get {α : Type} {d : α} {l : List α} {i : Nat} (h : i < l.length) : rdOf d l (i : Int) = l[i] := by simp [rdOf, h]
theorem bytes_eq (a b : ByteArray) : a.toList = b.toList ↔ a = b := by
 rw [ByteArray.toList_eq, ByteArray.toList_eq]
 constructor
 ·intro h
  have := Array.toList_inj.1 h
  cases a; cases b; simp at this; rw [this]
 ·rintro rfl; rfl
end Go.Proofs.YtejchnmhlcbfcaaDoor.Evs

/- General lemmas on loops over iterator functions: what a box of the call's own keeps. -/
namespace Go.Proofs.YtejchnmhlcbfcaaDoor.Iter
set_option linter.unusedVariables false
set_option linter.unusedSimpArgs false
open Go.RowKit Go.Shelf

theorem copy_cells {w : World} {g n j : Nat} {e : TypeId} {xs : List Value} {z : Value} {cur : Array Value} (hn : xs.length = n) (hj : j ≤ n) (htk : cur.toList.take ((n + 1) * 1) = xs ++ [z])
  (hg : w.heap[g]? = some (.cells cur e (0, 0))) : ∀ (q : Nat) (v : Value), (xs.drop j)[q]? = some v → w.cell? ((⟨g, j, none⟩ : Addr).add q) = some v := by
 intro q v hq
 have hq' : j + q < xs.length := by
  have h := (List.getElem?_eq_some_iff.1 hq).1
  simp at h; omega
 rw [List.getElem?_drop] at hq
 have h2 : cur.toList[j + q]? = some v := by
  have h3 : (cur.toList.take ((n + 1) * 1))[j + q]? = some v := by rw [htk, List.getElem?_append_left hq']; exact hq
  rw [List.getElem?_take] at h3
  split at h3
  ·exact h3
  ·cases h3
 have h4 : cur[j + q]? = some v := by simpa using h2
 rcases Nat.eq_zero_or_pos q with rfl | hp
 ·simp only [Nat.add_zero] at h4
  simp [World.cell?, Addr.add, hg, h4]
 ·have hq0 : ¬ q = 0 := by omega
  simp [World.cell?, Addr.add, hq0, hg, h4]
theorem splice_cell {w : World} {g j : Nat} {e : TypeId} {L : List Value} (hg : w.heap[g]? = some (.cells L.toArray e (0, 0))) (hj : j < L.length) : (∃ v, w.cell? ⟨g, j, none⟩ = some v) ∧ w.frozen? ⟨g, j, none⟩ = false := by
 refine ⟨⟨L[j], ?_⟩, ?_⟩
 ·simp [World.cell?, hg, hj]
 ·simp [World.frozen?, hg]
/-- 'copy' into a row that is known whole, as one step of a region that draws: no other block turns. -/
theorem step_copy_g {P : Program} {ops : Array Oper} {o : Oper} {a : Act} {w : World} {K : Act → World → Prop} {Q : Exit → Act → World → Prop} {E : Prop} (hgd : o.guard = none) (d s : Operand) (dT sT : TypeId)
  (ho : o.op = .call { callee := .builtin .copy, args := #[d, s], argTypes := #[dT, sT] }) (elem : TypeId) (hu : P.underlying dT = some (.slice elem)) (hsz : (P.info? elem).map (·.size) = some 1)
  (dp sp : Option Addr) (dLen dCap sLen sCap : Nat) (hd : a.eval d = .slice dp dLen dCap) (hs : a.eval s = .slice sp sLen sCap)
  (g off : Nat) (cur : List Value) (t : TypeId) (hg : w.heap[g]? = some (.cells cur.toArray t (0, 0))) (cs : List Value) (hn : cs.length = Nat.min sLen dLen)
  (hpos : 0 < cs.length → dp = some ⟨g, off, none⟩ ∧ ∃ ad, sp = some ad ∧ ∀ j v, cs[j]? = some v → w.cell? (ad.add j) = some v)
  (hfit : off + cs.length ≤ cur.length) (h1 : ∀ v ∈ cs, v.oneCell' = true)
  (h : ∀ w', RowKit.Hid (w'.heap[g]? = some (.cells (splice cur off cs).toArray t (0, 0))) → w.grownBy w' (some g) → K (a.put o.dst (goInt cs.length)) w') :
  if Region.wanted o (yielded ops a.tmps) = true then Oper.wp P o a w K Q else E := by
 have hw : Region.wanted o (yielded ops a.tmps) = true := by simp [Region.wanted, hgd]
 rw [if_pos hw]
 by_cases h0 : cs.length = 0
 ·obtain rfl : cs = [] := List.eq_nil_of_length_eq_zero h0
  have hrun := run_copy_none (P := P) w dT sT o.type elem dp sp dLen dCap sLen sCap hu hsz (by simpa using hn.symm)
  unfold Oper.wp
  simp [execOp, ho, resolve, invoke, builtin, hd, hs, hrun, Result.andThen]
  exact h w (show _ = _ by simpa [splice] using hg) ⟨rfl, rfl, rfl, Nat.le_refl _, fun _ _ _ => rfl⟩
 ·obtain ⟨rfl, ad, rfl, hsrc⟩ := hpos (by omega)
  have hrun := run_copy_row (P := P) w dT sT o.type elem g off dLen dCap ad sLen sCap cur.toArray t cs hu hsz hg hn hsrc (by simpa using hfit) h1
  unfold Oper.wp
  simp [execOp, ho, resolve, invoke, builtin, hd, hs, hrun, Result.andThen]
  exact h _ (show _ = _ by simpa [splice] using setRow_heap w g _ _ t _ hg) ⟨rfl, rfl, rfl, by simp [World.setRow], fun k _ hk => setRow_other w g k _ (fun e => hk (by rw [e]))⟩
/-- A cell put into a row of the call's own behind a shift of what follows: 'copy(out[i+1:], out[i:]); out[i] = x'. -/
theorem insert_row {w2 : World} {base g cap n i : Nat} {e : TypeId} {xs : List Value} {z x : Value} {cur : Array Value}
  (hb : base ≤ g) (hn : xs.length = n) (hi : i ≤ n) (hcap : n + 1 ≤ cap) (hm : cap ≤ maxLen) (hsz : cur.size = cap * 1) (htk : cur.toList.take ((n + 1) * 1) = xs ++ [z])
  (hg : w2.heap[g]? = some (.cells (splice cur.toList (i + 1) (xs.drop i)).toArray e (0, 0))) :
  (w2.setCell ⟨g, i, none⟩ x).ownsRow base e 1 (.slice (some ⟨g, 0, none⟩) (n + 1) cap) (n + 1) (xs.take i ++ x :: xs.drop i) := by
 have hcl : cur.toList.length = cap := by simpa using hsz
 have hsl : (splice cur.toList (i + 1) (xs.drop i)).length = cap := by
  unfold splice
  simp [hcl, hn]
  omega
 have hset : (w2.setCell ⟨g, i, none⟩ x).heap[g]? = some (.cells ((splice cur.toList (i + 1) (xs.drop i)).toArray.setIfInBounds i x) e (0, 0)) := by
  obtain ⟨hlt, hk⟩ := Array.getElem?_eq_some_iff.1 hg
  show (w2.heap.modify g _)[g]? = _
  rw [Array.getElem?_eq_getElem (by rw [Array.size_modify]; exact hlt), Array.getElem_modify_self, hk]
  rfl
 refine ⟨by simp; omega, .inr ⟨g, cap, _, rfl, hb, hset, hcap, hm, by simp [hsl], ?_⟩⟩
 have hti : cur.toList.take (i + 1) = (xs ++ [z]).take (i + 1) := by
  rw [← htk, List.take_take]; congr 1; omega
 simp only [Array.toList_setIfInBounds, Nat.mul_one]
 unfold splice
 rw [hti]
 apply List.ext_getElem?
 intro j
 simp only [List.getElem?_take, List.getElem?_set, List.getElem?_append, List.length_append, List.length_take, List.length_cons, List.length_nil, List.length_drop, List.getElem?_drop, List.getElem?_cons]
 by_cases hj : j < n + 1
 ·rw [if_pos hj]
  by_cases hji : i = j
  ·subst hji
   have a1 : i < min (i + 1) (xs.length + (0 + 1)) + (xs.length - i + (cur.toList.length - (i + 1 + (xs.length - i)))) := by omega
   rw [if_pos rfl, if_pos a1]
   have a2 : ¬ i < min i xs.length := by omega
   have a3 : i - min i xs.length = 0 := by omega
   rw [if_neg a2, if_pos a3]
  ·rw [if_neg hji]
   by_cases hlt : j < i
   ·rw [if_pos (by omega : j < min (i + 1) (xs.length + (0 + 1))), if_pos (by omega : j < i + 1), if_pos (by omega : j < xs.length), if_pos (by omega : j < min i xs.length), if_pos hlt]
   ·rw [if_neg (by omega : ¬ j < min (i + 1) (xs.length + (0 + 1))), if_pos (by omega : j - min (i + 1) (xs.length + (0 + 1)) < xs.length - i), if_neg (by omega : ¬ j < min i xs.length), if_neg (by omega : ¬ j - min i xs.length = 0)]
    congr 1
    omega
 ·rw [if_neg hj, if_neg (by omega : ¬ j < min i xs.length), if_neg (by omega : ¬ j - min i xs.length = 0)]
  symm
  apply List.getElem?_eq_none
  omega

end Go.Proofs.YtejchnmhlcbfcaaDoor.Iter

/- Rows of rows of the call's own within a loop over an iterator: append, and what the loop's book-keeping leaves. -/
namespace Go.Proofs.YtejchnmhlcbfcaaDoor.Iter
set_option linter.unusedVariables false
set_option linter.unusedSimpArgs false
open Go.RowKit Go.Shelf Go.Proofs.YtejchnmhlcbfcaaDoorW.PrintWords Go.Proofs.YtejchnmhlcbfcaaDoorW.PrintLast

section
variable {F : Fence} {n : Nat} {P : Program} {ops : Array Oper} {rest : List Oper} {o : Oper} {a : Act} {Q : Exit → Act → World → Prop} {α : Type}
end
/-- A block of the call's own, whole. -/
def Blk (W : World) (B : Nat) (t : TypeId) (cs : List Value) : Prop := W.heap[B]? = some (.cells cs.toArray t (0, 0))
theorem blk_set {W : World} {B : Nat} {t : TypeId} {cs : List Value} (i : Nat) (v : Value) (h : Blk W B t cs) : Blk (W.setCell ⟨B, i, none⟩ v) B t (cs.set i v) := by
 obtain ⟨hlt, hk⟩ := Array.getElem?_eq_some_iff.1 (show W.heap[B]? = _ from h)
 show (W.heap.modify B _)[B]? = _
 rw [Array.getElem?_eq_getElem (by rw [Array.size_modify]; exact hlt), Array.getElem_modify_self, hk]
 simp
theorem blk_later {W W' : World} {B : Nat} {t : TypeId} {cs : List Value} (h : Blk W B t cs) (hb : Below W.heap.size W W') : Blk W' B t cs := (hb.block B (Array.getElem?_eq_some_iff.1 h).1).trans h
/-! ### Results in boxes -/
/-! ### A region that draws its order, within a round -/
end Go.Proofs.YtejchnmhlcbfcaaDoor.Iter

/- Sets of numbers below 64 as vectors of bits: what Go's operations on a uint64 say of them. -/
namespace Go.Proofs.YtejchnmhlcbfcaaDoor.Bits
set_option linter.unusedVariables false
set_option linter.unusedSimpArgs false
open Go.RowKit Go.Proofs.YtejchnmhlcbfcaaDoorW.PrintWords Go.Proofs.YtejchnmhlcbfcaaDoorW.PrintLast Go.Proofs.YtejchnmhlcbfcaaDoorW.PrintMore

/-- A vector of bits as Go's number. -/
def U (v : BitVec 64) : Int := (v.toNat : Int)
theorem U_nonneg (v : BitVec 64) : 0 ≤ U v := Int.natCast_nonneg _
theorem U_lt (v : BitVec 64) : U v < 18446744073709551616 := by have := v.isLt; unfold U; omega
theorem U_inj {a b : BitVec 64} : U a = U b ↔ a = b := by
 constructor
 ·intro h; apply BitVec.eq_of_toNat_eq; unfold U at h; omega
 ·rintro rfl; rfl
theorem ofInt_U (v : BitVec 64) : BitVec.ofInt 64 (U v) = v := by
 unfold U
 rw [BitVec.ofInt_natCast]
 simp
theorem wrap_U (v : BitVec 64) : IntKind.u64.wrap (v.toNat : Int) = U v := by
 rw [IntKind.wrap_u64]; unfold U; have := v.isLt; omega
theorem bits_and (a b : BitVec 64) : Go.bits .and .u64 (U a) (U b) = U (a &&& b) := by
 show IntKind.u64.wrap ((BitVec.ofInt 64 (U a) &&& BitVec.ofInt 64 (U b)).toNat : Int) = _
 rw [ofInt_U, ofInt_U, wrap_U]
theorem bits_or (a b : BitVec 64) : Go.bits .or .u64 (U a) (U b) = U (a ||| b) := by
 show IntKind.u64.wrap ((BitVec.ofInt 64 (U a) ||| BitVec.ofInt 64 (U b)).toNat : Int) = _
 rw [ofInt_U, ofInt_U, wrap_U]
theorem wrap_add (a b : BitVec 64) : IntKind.u64.wrap (U a + U b) = U (a + b) := by
 rw [IntKind.wrap_u64]; unfold U; rw [BitVec.toNat_add]; omega
theorem U_zero : U 0#64 = 0 := rfl
theorem U_one : U 1#64 = 1 := rfl
theorem U_eq_zero {a : BitVec 64} : U a = 0 ↔ a = 0#64 := by rw [← U_zero]; exact U_inj
/-- The set of one number. -/
def tp (i : Nat) : BitVec 64 := BitVec.twoPow 64 i
theorem U_tp {i : Nat} (h : i < 64) : U (tp i) = 2 ^ i := by
 unfold U tp
 rw [BitVec.toNat_twoPow]
 have : 2 ^ i < 2 ^ 64 := Nat.pow_lt_pow_right (by decide) h
 rw [Nat.mod_eq_of_lt this]
 exact Int.natCast_pow 2 i
theorem tp_bit (i j : Nat) : (tp i).getLsbD j = (decide (i < 64) && decide (i = j)) := by
 unfold tp; rw [BitVec.getLsbD_twoPow]
theorem shl_one {i : Nat} (h : i < 64) : shl .u64 1 (i : Int) = U (tp i) := by
 unfold shl
 have e : min ((i : Int)).toNat IntKind.u64.bits = i := by
  rw [Int.toNat_natCast]; exact Nat.min_eq_left (by simp [IntKind.bits]; omega)
 rw [e, Int.one_mul, ← U_tp h, IntKind.wrap_u64]
 have := U_lt (tp i); have := U_nonneg (tp i)
 omega
theorem wrap_idx {i : Int} (h0 : 0 ≤ i) (h1 : i < 64) : IntKind.u64.wrap i = i := by
 rw [IntKind.wrap_u64]; omega
theorem div_bit (a : BitVec 64) (i : Nat) : (U a / 2 ^ i) % 2 = (if a.getLsbD i then 1 else 0) := by
 unfold U
 rw [BitVec.getLsbD, Nat.testBit_eq_decide_div_mod_eq]
 have e : ((a.toNat : Int) / 2 ^ i) = ((a.toNat / 2 ^ i : Nat) : Int) := by rw [Int.natCast_ediv, Int.natCast_pow]; rfl
 rw [e]
 split <;> rename_i h <;> simp at h <;> omega
theorem div_U (a : BitVec 64) (i : Nat) : U a / 2 ^ i = U (a >>> i) := by
 unfold U
 rw [BitVec.toNat_ushiftRight, Nat.shiftRight_eq_div_pow, Int.natCast_ediv, Int.natCast_pow]; rfl
theorem bit_at (a : BitVec 64) (i : Nat) : (Go.bits .and .u64 (U a / 2 ^ i) 1 == 1) = a.getLsbD i := by
 rw [div_U, ← U_one, bits_and]
 have e : (a >>> i &&& 1#64) = if a.getLsbD i then 1#64 else 0#64 := by
  apply BitVec.eq_of_getLsbD_eq
  intro j hj
  rw [BitVec.getLsbD_and, BitVec.getLsbD_ushiftRight]
  by_cases h0 : j = 0
  ·subst h0
   cases hb : a.getLsbD i <;> simp [hb]
  ·have h1 : (1#64).getLsbD j = false := by rw [BitVec.getLsbD_one]; simp [h0]
   cases hb : a.getLsbD i <;> simp [h1]
 rw [e]
 cases a.getLsbD i <;> simp [U]
theorem shr_at {a : BitVec 64} {i : Nat} (h : i < 64) : shr .u64 (U a) (i : Int) = U a / 2 ^ i := by
 unfold shr
 have e : min ((i : Int)).toNat IntKind.u64.bits = i := by
  rw [Int.toNat_natCast]; exact Nat.min_eq_left (by simp [IntKind.bits]; omega)
 rw [e]

theorem ext_bit {a b : BitVec 64} (h : ∀ i, i < 64 → a.getLsbD i = b.getLsbD i) : a = b := BitVec.eq_of_getLsbD_eq h
/-- Nothing in common: the sum is the union. -/
theorem add_or {a b : BitVec 64} (h : a &&& b = 0#64) : a + b = a ||| b := BitVec.add_eq_or_of_and_eq_zero a b h
theorem add_tp {a : BitVec 64} {i : Nat} (h : a.getLsbD i = false) : a + tp i = a ||| tp i := by
 apply add_or
 apply ext_bit
 intro j hj
 rw [BitVec.getLsbD_and, tp_bit]
 by_cases e : i = j
 ·subst e; simp [h]
 ·simp [e]
end Go.Proofs.YtejchnmhlcbfcaaDoor.Bits

/- The parts of a text between separators, by bytes. -/
namespace Go.Proofs.YtejchnmhlcbfcaaDoor.Parts
set_option linter.unusedVariables false
set_option linter.unusedSimpArgs false

end Go.Proofs.YtejchnmhlcbfcaaDoor.Parts

/- A loop over an iterator function that yields a row of its own (whose cells it turns between two rounds): the rule. -/
namespace Go.Proofs.YtejchnmhlcbfcaaDoor.Iter
set_option linter.unusedVariables false
set_option linter.unusedSimpArgs false
open Go.RowKit Go.Shelf Go.Proofs.YtejchnmhlcbfcaaDoorW.PrintWords Go.Proofs.YtejchnmhlcbfcaaDoorW.PrintLast

end Go.Proofs.YtejchnmhlcbfcaaDoor.Iter

/- 'copy' into a row of elements of more than one cell, and a pair put into a row behind a shift of what follows. -/
namespace Go.Proofs.YtejchnmhlcbfcaaDoor.CopyN
set_option linter.unusedVariables false
set_option linter.unusedSimpArgs false
open Go.RowKit Go.Proofs.YtejchnmhlcbfcaaDoorW.PrintWords Go.Proofs.YtejchnmhlcbfcaaDoorW.PrintLast Go.Proofs.YtejchnmhlcbfcaaDoorW.PrintMore Go.Proofs.YtejchnmhlcbfcaaDoor.Iter

theorem run_copy_rowN {P : Program} (w : World) (dT sT ty elem : TypeId) (g o dLen dCap : Nat) (a : Addr) (sLen sCap : Nat) (cur : Array Value) (t : TypeId) (cs : List Value) (s : Nat)
  (hu : P.underlying dT = some (.slice elem)) (hs : (P.info? elem).map (·.size) = some s)
  (hg : w.heap[g]? = some (.cells cur t (0, 0))) (hn : cs.length = Nat.min sLen dLen * s)
  (hsrc : ∀ j v, cs[j]? = some v → w.cell? (a.add j) = some v) (hfit : o + cs.length ≤ cur.size) (h1 : ∀ v ∈ cs, v.oneCell' = true) :
  (Builtin.copy_ #[dT, sT] ty #[.slice (some ⟨g, o, none⟩) dLen dCap, .slice (some a) sLen sCap]).run P w =
   .ok (goInt (Nat.min sLen dLen)) (w.setRow g (cur.toList.take o ++ cs ++ cur.toList.drop (o + cs.length)).toArray) := by
 have hl := run_loadCells_list (P := P) w a cs hsrc
 have hst := run_storeCells_at P g o t cs 0 cur w hg (by simpa using hfit) h1
 cases hq : P.info? elem with
 | none => simp [hq] at hs
 | some i =>
  have hi : i.size = s := by simpa [hq] using hs
  rw [hn] at hl
  simp [Builtin.copy_, run_underlying hu, Builtin.lenOf, Builtin.firstCells, sizeOf, typeInfo, hq, hi, hl, hst]
theorem run_copy_noneN {P : Program} (w : World) (dT sT ty elem : TypeId) (d a : Option Addr) (dLen dCap sLen sCap s : Nat) (hu : P.underlying dT = some (.slice elem)) (hs : (P.info? elem).map (·.size) = some s) (hn : Nat.min sLen dLen = 0) :
  (Builtin.copy_ #[dT, sT] ty #[.slice d dLen dCap, .slice a sLen sCap]).run P w = .ok (goInt 0) w := by
 cases hq : P.info? elem with
 | none => simp [hq] at hs
 | some i =>
  have hl : ∀ (x : Addr), (loadCells x 0).run P w = .ok #[] w := fun x => by simpa using run_loadCells_list (P := P) w x [] (by simp)
  cases d <;> cases a <;> simp [Builtin.copy_, run_underlying hu, Builtin.lenOf, Builtin.firstCells, sizeOf, typeInfo, hq, hn, storeCells, hl]
/-- 'copy' into a row that is known whole, as one step of a region that draws: no other block turns. -/
theorem step_copy_gN {P : Program} {ops : Array Oper} {o : Oper} {a : Act} {w : World} {K : Act → World → Prop} {Q : Exit → Act → World → Prop} {E : Prop} (hgd : o.guard = none) (d s : Operand) (dT sT : TypeId)
  (ho : o.op = .call { callee := .builtin .copy, args := #[d, s], argTypes := #[dT, sT] }) (elem : TypeId) (hu : P.underlying dT = some (.slice elem)) (sz : Nat) (hsz : (P.info? elem).map (·.size) = some sz)
  (dp sp : Option Addr) (dLen dCap sLen sCap : Nat) (hd : a.eval d = .slice dp dLen dCap) (hs : a.eval s = .slice sp sLen sCap)
  (g off : Nat) (cur : List Value) (t : TypeId) (hg : w.heap[g]? = some (.cells cur.toArray t (0, 0))) (cs : List Value) (hn : cs.length = Nat.min sLen dLen * sz)
  (hpos : 0 < Nat.min sLen dLen → dp = some ⟨g, off, none⟩ ∧ ∃ ad, sp = some ad ∧ ∀ j v, cs[j]? = some v → w.cell? (ad.add j) = some v)
  (hfit : off + cs.length ≤ cur.length) (h1 : ∀ v ∈ cs, v.oneCell' = true)
  (h : ∀ w', RowKit.Hid (w'.heap[g]? = some (.cells (splice cur off cs).toArray t (0, 0))) → w.grownBy w' (some g) → K (a.put o.dst (goInt (Nat.min sLen dLen))) w') :
  if Region.wanted o (yielded ops a.tmps) = true then Oper.wp P o a w K Q else E := by
 have hw : Region.wanted o (yielded ops a.tmps) = true := by simp [Region.wanted, hgd]
 rw [if_pos hw]
 by_cases h0 : Nat.min sLen dLen = 0
 ·obtain rfl : cs = [] := List.eq_nil_of_length_eq_zero (by rw [hn, h0, Nat.zero_mul])
  have hrun := run_copy_noneN (P := P) w dT sT o.type elem dp sp dLen dCap sLen sCap sz hu hsz h0
  rw [h0] at h
  unfold Oper.wp
  simp [execOp, ho, resolve, invoke, builtin, hd, hs, hrun, Result.andThen]
  exact h w (show _ = _ by simpa [splice] using hg) ⟨rfl, rfl, rfl, Nat.le_refl _, fun _ _ _ => rfl⟩
 ·obtain ⟨rfl, ad, rfl, hsrc⟩ := hpos (by omega)
  have hrun := run_copy_rowN (P := P) w dT sT o.type elem g off dLen dCap ad sLen sCap cur.toArray t cs sz hu hsz hg hn hsrc (by simpa using hfit) h1
  unfold Oper.wp
  simp [execOp, ho, resolve, invoke, builtin, hd, hs, hrun, Result.andThen]
  exact h _ (show _ = _ by simpa [splice] using setRow_heap w g _ _ t _ hg) ⟨rfl, rfl, rfl, by simp [World.setRow], fun k _ hk => setRow_other w g k _ (fun e => hk (by rw [e]))⟩
/-- Cells of what follows place j, read in the row's block. -/
theorem copy_cells2 {w : World} {g n j m : Nat} {e : TypeId} {xs zs : List Value} {cur : Array Value} (hn : xs.length = n) (hj : j ≤ n) (htk : cur.toList.take m = xs ++ zs) (hm : n ≤ m)
  (hg : w.heap[g]? = some (.cells cur e (0, 0))) : ∀ (q : Nat) (v : Value), (xs.drop j)[q]? = some v → w.cell? ((⟨g, j, none⟩ : Addr).add q) = some v := by
 intro q v hq
 have hq' : j + q < xs.length := by
  have h := (List.getElem?_eq_some_iff.1 hq).1
  simp at h; omega
 rw [List.getElem?_drop] at hq
 have h2 : cur.toList[j + q]? = some v := by
  have h3 : (cur.toList.take m)[j + q]? = some v := by rw [htk, List.getElem?_append_left hq']; exact hq
  rw [List.getElem?_take] at h3
  split at h3
  ·exact h3
  ·cases h3
 have h4 : cur[j + q]? = some v := by simpa using h2
 rcases Nat.eq_zero_or_pos q with rfl | hp
 ·simp only [Nat.add_zero] at h4
  simp [World.cell?, Addr.add, hg, h4]
 ·have hq0 : ¬ q = 0 := by omega
  simp [World.cell?, Addr.add, hq0, hg, h4]
/-- A pair put into a row of the call's own behind a shift of what follows: 'copy(out[i+1:], out[i:]); out[i] = p'. -/
theorem insert_row2 {w2 : World} {base g cap n i : Nat} {e : TypeId} {xs : List Value} {z1 z2 x1 x2 : Value} {cur : Array Value}
  (hb : base ≤ g) (hn : xs.length = n * 2) (hi : i ≤ n) (hcap : n + 1 ≤ cap) (hm : cap ≤ maxLen) (hsz : cur.size = cap * 2) (htk : cur.toList.take ((n + 1) * 2) = xs ++ [z1, z2])
  (hg : w2.heap[g]? = some (.cells (splice cur.toList (i * 2 + 2) (xs.drop (i * 2))).toArray e (0, 0))) :
  ((w2.setCell ⟨g, i * 2, none⟩ x1).setCell ⟨g, i * 2 + 1, none⟩ x2).ownsRow base e 2 (.slice (some ⟨g, 0, none⟩) (n + 1) cap) (n + 1) (xs.take (i * 2) ++ x1 :: x2 :: xs.drop (i * 2)) := by
 have hcl : cur.toList.length = cap * 2 := by simpa using hsz
 have hsl : (splice cur.toList (i * 2 + 2) (xs.drop (i * 2))).length = cap * 2 := by
  unfold splice
  simp [hcl, hn]
  omega
 have hset : ∀ (W : World) (cs : Array Value) (q : Nat) (u : Value), W.heap[g]? = some (.cells cs e (0, 0)) → (W.setCell ⟨g, q, none⟩ u).heap[g]? = some (.cells (cs.setIfInBounds q u) e (0, 0)) := by
  intro W cs q u h
  obtain ⟨hlt, hk⟩ := Array.getElem?_eq_some_iff.1 h
  show (W.heap.modify g _)[g]? = _
  rw [Array.getElem?_eq_getElem (by rw [Array.size_modify]; exact hlt), Array.getElem_modify_self, hk]
  rfl
 have hs2 := hset _ _ (i * 2 + 1) x2 (hset _ _ (i * 2) x1 hg)
 refine ⟨by simp; omega, .inr ⟨g, cap, _, rfl, hb, hs2, hcap, hm, by simp [hsl], ?_⟩⟩
 have hti : cur.toList.take (i * 2 + 2) = (xs ++ [z1, z2]).take (i * 2 + 2) := by
  rw [← htk, List.take_take]; congr 1; omega
 simp only [Array.toList_setIfInBounds]
 unfold splice
 rw [hti]
 apply List.ext_getElem?
 intro j
 simp only [List.getElem?_take, List.getElem?_set, List.getElem?_append, List.length_append, List.length_take, List.length_cons, List.length_nil, List.length_drop, List.getElem?_drop, List.getElem?_cons, List.length_set]
 by_cases hj : j < (n + 1) * 2
 ·rw [if_pos hj]
  by_cases h2 : i * 2 + 1 = j
  ·subst h2
   rw [if_pos rfl, if_pos (by omega), if_neg (by omega), if_neg (by omega), if_pos (by omega)]
  ·rw [if_neg h2]
   by_cases h1 : i * 2 = j
   ·subst h1
    rw [if_pos rfl, if_pos (by omega), if_neg (by omega), if_pos (by omega)]
   ·rw [if_neg h1]
    by_cases hlt : j < i * 2
    ·rw [if_pos (by omega : j < min (i * 2 + 2) (xs.length + (0 + 1 + 1))), if_pos (by omega : j < i * 2 + 2), if_pos (by omega : j < xs.length), if_pos (by omega : j < min (i * 2) xs.length), if_pos hlt]
    ·rw [if_neg (by omega : ¬ j < min (i * 2 + 2) (xs.length + (0 + 1 + 1))), if_pos (by omega : j - min (i * 2 + 2) (xs.length + (0 + 1 + 1)) < xs.length - i * 2), if_neg (by omega : ¬ j < min (i * 2) xs.length), if_neg (by omega), if_neg (by omega)]
     congr 1
     omega
 ·rw [if_neg hj, if_neg (by omega : ¬ j < min (i * 2) xs.length), if_neg (by omega), if_neg (by omega)]
  symm
  apply List.getElem?_eq_none
  omega
/-- The cells of a row whose elements are told by their cells. -/
theorem flat_take {α : Type} {g : α → List Value} {s : Nat} (hg : ∀ x, (g x).length = s) : ∀ (xs : List α) (j : Nat), (xs.take j).flatMap g = (xs.flatMap g).take (j * s)
 | [], j => by simp
 | x :: xs, 0 => by simp
 | x :: xs, j + 1 => by
  rw [List.take_succ_cons, List.flatMap_cons, List.flatMap_cons, flat_take hg xs j, Nat.add_mul, Nat.one_mul, List.take_append, hg x, show j * s + s - s = j * s by omega, show (g x).take (j * s + s) = g x from List.take_of_length_le (by rw [hg x]; omega)]
theorem flat_drop {α : Type} {g : α → List Value} {s : Nat} (hg : ∀ x, (g x).length = s) : ∀ (xs : List α) (j : Nat), (xs.drop j).flatMap g = (xs.flatMap g).drop (j * s)
 | [], j => by simp
 | x :: xs, 0 => by simp
 | x :: xs, j + 1 => by
  rw [List.drop_succ_cons, List.flatMap_cons, flat_drop hg xs j, Nat.add_mul, Nat.one_mul, List.drop_append, hg x, show j * s + s - s = j * s by omega, show (g x).drop (j * s + s) = [] from List.drop_of_length_le (by rw [hg x]; omega), List.nil_append]
theorem flat_len {α : Type} {g : α → List Value} {s : Nat} (hg : ∀ x, (g x).length = s) : ∀ (xs : List α), (xs.flatMap g).length = xs.length * s
 | [] => by simp
 | x :: xs => by rw [List.flatMap_cons, List.length_append, hg x, flat_len hg xs, List.length_cons, Nat.add_mul, Nat.one_mul]; omega
theorem reps_flat {α : Type} {R : α → List Value → Prop} {g : α → List Value} {s : Nat} (hR : ∀ x c, R x c → c = g x) : ∀ (xs : List α) (cs : List Value), Reps R s xs cs → cs = xs.flatMap g
 | [], cs, h => by have := h.1; simp at this; simp [this]
 | x :: xs, cs, h => by
  obtain ⟨hl, he⟩ := h
  have h0 := hR x _ (he 0 x rfl)
  rw [Nat.zero_mul, List.drop_zero] at h0
  have hr : Reps R s xs (cs.drop s) := ⟨by rw [List.length_drop, hl, List.length_cons, Nat.add_mul, Nat.one_mul]; omega, fun j p hp => by
   have := he (j + 1) p (by simpa using hp)
   rw [List.drop_drop]
   rwa [Nat.add_mul, Nat.one_mul, Nat.add_comm] at this⟩
  have ht := reps_flat hR xs (cs.drop s) hr
  rw [List.flatMap_cons, ← h0, ← ht, List.take_append_drop]
theorem flat_reps {α : Type} {R : α → List Value → Prop} {g : α → List Value} {s : Nat} (hR : ∀ x, R x (g x)) (hg : ∀ x, (g x).length = s) (xs : List α) : Reps R s xs (xs.flatMap g) := by
 refine ⟨flat_len hg xs, fun j p hp => ?_⟩
 obtain ⟨hj, rfl⟩ := List.getElem?_eq_some_iff.1 hp
 have e : ((xs.flatMap g).drop (j * s)).take s = g xs[j] := by
  rw [← flat_drop hg, List.drop_eq_getElem_cons hj, List.flatMap_cons, List.take_append, hg, Nat.sub_self, List.take_zero, List.append_nil, List.take_of_length_le (by rw [hg]; exact Nat.le_refl _)]
 rw [e]; exact hR _
theorem own_flat {α : Type} {d : Kd α} {g : α → List Value} {e : Nat} {w : World} {base : Nat} {ok : Nat → Prop} {v : Value} {xs : List α} (hM : ∀ {w : World} {base : Nat} {ok : Nat → Prop} {x : α} {c : List Value}, d.M w base ok x c → c = g x) (h : d.R e w base ok v xs) : w.ownsRow base e d.sz v xs.length (xs.flatMap g) := by
 obtain ⟨_, inner, ho, hr⟩ := h
 rw [← reps_flat (fun x c hx => hM hx) xs inner hr]
 exact ho
theorem flat_own {α : Type} {d : Kd α} {g : α → List Value} {e : Nat} {w : World} {base : Nat} {ok : Nat → Prop} {v : Value} {xs : List α} (hM : ∀ (w : World) (base : Nat) (ok : Nat → Prop) (x : α), d.M w base ok x (g x)) (hg : ∀ x, (g x).length = d.sz) (h : w.ownsRow base e d.sz v xs.length (xs.flatMap g)) (hok : ∀ k, v.ownBlock = some k → ok k) : d.R e w base ok v xs :=
 ⟨hok, _, h, flat_reps (fun x => hM _ _ _ x) hg xs⟩
end Go.Proofs.YtejchnmhlcbfcaaDoor.CopyN

