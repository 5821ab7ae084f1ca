/- Functions that the statement reaches: what each answers, and that the program answers it (written by a program of this work). -/
import Derived.Test.YtaofommgdgmncaaProg
import Derived.Below
import Derived.Deep.Draws
import Derived.Deep.AppendLies
import Derived.Maps.AppendAt
import Derived.OwnWalk
import Derived.Laws.BytesArg
import Derived.Laws.MakeOwn
import Derived.Laws.OwnMore
import Derived.Deep.OwnRows
import Derived.Tactics
import Derived.Lib.ConvBytes
import Derived.Laws.Slices
import Derived.WalkKit
import Derived.KernelRfl
import Derived.RowKit3
import Derived.Deep.LoopGhost
import Derived.Deep.QuietTactic
import Derived.BigQuiet
import Derived.WideLaws
import Derived.Deep.DeepCutAuto
import Derived.Deep.CutBlock
import Derived.Deep.RegionHeld3
import Derived.Laws.Rows
import Derived.Lib.AppendStr
import Derived.ArgAppend
import Derived.Laws.IdiomCopy
import Derived.OrdersHeld
import Derived.Laws.BitsLemmas
import Derived.RowKit
import Derived.WalkMore
import Derived.Test.YtaofommgdgmncaaVEventlogBack
import Derived.Test.YtaofommgdgmncaaBEventlogBack
import Derived.Sort.QuietIn
import Derived.Shelf.RegionOpen
import Derived.LoopTactic
import Derived.BigGuardPart
namespace Go.Proofs.Ytaofommgdgmncaa.Pr
open Go.RowKit Go.Proofs.YtaofommgdgmncaaW.PrintWords Go.Proofs.YtaofommgdgmncaaW.PrintLast Go.Proofs.YtaofommgdgmncaaW.PrintMore
attribute [local go_sem] Instr.field asAgg
attribute [local go_sem] max2_int min2_int max_two min_two max_three min_three max_four min_four   -- for this text's walks alone
set_option linter.unusedVariables false
set_option linter.unusedSimpArgs false



def errW : Option Int → Value
 | none => .nilIface
 | some c => .iface 0 (.int .i64 c)
theorem errW_none : errW none = .nilIface := rfl
theorem errW_some (c : Int) : errW (some c) = .iface 0 (.int .i64 c) := rfl

theorem info3 : (Try.prog.info? 3).map (fun i => (i.zero, i.size, i.bytes)) = some (some (.int .i64 0), 1, 8) := by kernel_rfl
theorem info9 : (Try.prog.info? 9).map (fun i => (i.zero, i.size, i.bytes)) = some (some (.string ⟨#[]⟩), 1, 16) := by kernel_rfl
theorem info34 : (Try.prog.info? 34).map (fun i => (i.zero, i.size, i.bytes)) = some (some (.slice none 0 0), 1, 24) := by kernel_rfl
-- the values' own types
def rd_L1 (xs : List (List ByteArray)) (i : Int) : (List ByteArray) := xs.getD i.toNat ([] : List ByteArray)
theorem at_L1 {w : World} {A : Option Addr} {n : Nat} {xs : List (List ByteArray)} (h : Kd.C (Kd.slice 9 Kd.string) w A n xs) (i : Int) (h0 : 0 ≤ i) (h1 : i < n) : ∃ ad A0 c0, A = some ad ∧ w.cell? (ad.add i.toNat) = some (.slice A0 (rd_L1 xs i).length c0) ∧ (rd_L1 xs i).length ≤ c0 ∧ Kd.string.C w A0 (rd_L1 xs i).length (rd_L1 xs i) := by
 obtain ⟨ad, c, e, _, hK, hc0⟩ := Kd.C_get h ([] : List ByteArray) i h0 h1
 have hc : ∀ j u, c[j]? = some u → w.cell? (ad.add (i.toNat * 1 + j)) = some u := hc0
 obtain ⟨A0, c0, rfl, l0, g0⟩ := hK
 exact ⟨ad, A0, c0, e, by have hq := hc 0 _ rfl; rwa [Nat.mul_one, Nat.add_zero] at hq, l0, g0⟩

def rd_L3 (xs : List (List (List ByteArray))) (i : Int) : (List (List ByteArray)) := xs.getD i.toNat ([] : List (List ByteArray))
theorem at_L3 {w : World} {A : Option Addr} {n : Nat} {xs : List (List (List ByteArray))} (h : Kd.C (Kd.slice 34 (Kd.slice 9 Kd.string)) w A n xs) (i : Int) (h0 : 0 ≤ i) (h1 : i < n) : ∃ ad A0 c0, A = some ad ∧ w.cell? (ad.add i.toNat) = some (.slice A0 (rd_L3 xs i).length c0) ∧ (rd_L3 xs i).length ≤ c0 ∧ (Kd.slice 9 Kd.string).C w A0 (rd_L3 xs i).length (rd_L3 xs i) := by
 obtain ⟨ad, c, e, _, hK, hc0⟩ := Kd.C_get h ([] : List (List ByteArray)) i h0 h1
 have hc : ∀ j u, c[j]? = some u → w.cell? (ad.add (i.toNat * 1 + j)) = some u := hc0
 obtain ⟨A0, c0, rfl, l0, g0⟩ := hK
 exact ⟨ad, A0, c0, e, by have hq := hc 0 _ rfl; rwa [Nat.mul_one, Nat.add_zero] at hq, l0, g0⟩

/-! #### struct type 26 -/
structure S26 where
 f0 : Int
 f1 : Int
def z26 : S26 := ⟨(0 : Int), (0 : Int)⟩
def k26 : Kd S26 := Kd.iso (Kd.pair (Kd.int .i64) (Kd.int .i64)) (fun x : S26 => (x.f0, x.f1))
theorem k26_heap : Kd.Heap k26 := Kd.heap_iso _ (Kd.heap_pair (Kd.heap_int .i64) (Kd.heap_int .i64))
theorem k26_open {w : World} {x : S26} {cs : List Value} (h : k26.K w x cs) : cs = [.int .i64 x.f0, .int .i64 x.f1] := by
 obtain ⟨_, _, rfl, rfl, rfl⟩ := h
 exact rfl
theorem k26_openM {w : World} {base : Nat} {ok : Nat → Prop} {x : S26} {cs : List Value} (h : k26.M w base ok x cs) : cs = [.int .i64 x.f0, .int .i64 x.f1] := by
 obtain ⟨_, _, rfl, rfl, rfl⟩ := h
 exact rfl
theorem k26_mk (w : World) (x : S26)  : k26.K w x [.int .i64 x.f0, .int .i64 x.f1] := ⟨[.int .i64 x.f0], [.int .i64 x.f1], rfl, rfl, rfl⟩
theorem k26_mkM (w : World) (base : Nat) (ok : Nat → Prop) (x : S26)  : k26.M w base ok x [.int .i64 x.f0, .int .i64 x.f1] := ⟨[.int .i64 x.f0], [.int .i64 x.f1], rfl, rfl, rfl⟩
theorem k26_mkF (W : World) (ok : Nat → Prop) (x : S26) : Kd.FK k26 W ok x [.int .i64 x.f0, .int .i64 x.f1] := fun W2 _ => k26_mk W2 x
def rd_T26 (xs : List S26) (i : Int) : S26 := xs.getD i.toNat z26
theorem at_T26 {w : World} {A : Option Addr} {n : Nat} {xs : List S26} (h : Kd.C k26 w A n xs) (i : Int) (h0 : 0 ≤ i) (h1 : i < n) : ∃ ad , A = some ad ∧ w.cell? (ad.add (i.toNat * 2)) = some (.int .i64 (rd_T26 xs i).f0) ∧ w.cell? ⟨(ad.add (i.toNat * 2)).block, (ad.add (i.toNat * 2)).off + 1, none⟩ = some (.int .i64 (rd_T26 xs i).f1) := by
 obtain ⟨ad, c, e, _, hK, hc0⟩ := Kd.C_get h z26 i h0 h1
 have hc : ∀ j u, c[j]? = some u → w.cell? (ad.add (i.toNat * 2 + j)) = some u := hc0
 obtain rfl := k26_open hK
 exact ⟨ad, e, hc 0 _ rfl, by rw [← add_field _ _ 1 (by omega)]; exact hc 1 _ rfl⟩

def rd_L6 (xs : List (List Int)) (i : Int) : (List Int) := xs.getD i.toNat ([] : List Int)
theorem at_L6 {w : World} {A : Option Addr} {n : Nat} {xs : List (List Int)} (h : Kd.C (Kd.slice 3 (Kd.int .i64)) w A n xs) (i : Int) (h0 : 0 ≤ i) (h1 : i < n) : ∃ ad A0 c0, A = some ad ∧ w.cell? (ad.add i.toNat) = some (.slice A0 (rd_L6 xs i).length c0) ∧ (rd_L6 xs i).length ≤ c0 ∧ (Kd.int .i64).C w A0 (rd_L6 xs i).length (rd_L6 xs i) := by
 obtain ⟨ad, c, e, _, hK, hc0⟩ := Kd.C_get h ([] : List Int) i h0 h1
 have hc : ∀ j u, c[j]? = some u → w.cell? (ad.add (i.toNat * 1 + j)) = some u := hc0
 obtain ⟨A0, c0, rfl, l0, g0⟩ := hK
 exact ⟨ad, A0, c0, e, by have hq := hc 0 _ rfl; rwa [Nat.mul_one, Nat.add_zero] at hq, l0, g0⟩



theorem eqA26 (d : Nat) (w : World) (x0 y0 : Int) (x1 y1 : Int) :
  (Op.equalIn (d + 2) 26 (.agg #[.int .i64 x0, .int .i64 x1]) (.agg #[.int .i64 y0, .int .i64 y1])).run Try.prog w = .ok (x0 == y0 && (x1 == y1)) w := by
 refine eqA_of Try.underlying26 (by kernel_rfl) ?_
 refine eqf_cons (by rfl) (by go_simp; rfl) (by go_simp; rfl) (by go_simp) ?_
 exact eqf_last (by rfl) (by go_simp; rfl) (by go_simp; rfl) (by go_simp)


-- NOT PRINTED: function 44 (eventlog_parts_1)

-- NOT PRINTED: function 34 (eventlog_parts)




section
-- STUBBED 35
/-! ### eventlog_words: function 35: by hand -/
open Go.Shelf Go.Proofs.Ytaofommgdgmncaa.Iter Go.Proofs.Ytaofommgdgmncaa.Parts
attribute [local go_sem] Oper.semAt_some

def textFits (s : ByteArray) : Prop := s.size ≤ 1099511627776

set_option maxHeartbeats 1000000 in
/-- parts(s, by): both are boxed; the function value captures the boxes. -/
theorem parts_in (F : Fence) (n : Nat) (hf : F.fn 34) (hro : F.round = none) (s : ByteArray) (b : Int) (w : World) :
    CallsIn F n Try.prog 34 #[.string s, .int .u8 b] w fun e w' => e = .returned (.func (.func 44) #[] #[.pointer (some ⟨w.heap.size, 0, none⟩), .pointer (some ⟨w.heap.size + 1, 0, none⟩)]) ∧ w' = (w.alloc (.cells #[.string s] 9)).alloc (.cells #[.int .u8 b] 5) := by
  refine callsIn_of_wp Try.func34 rfl hf ?_ hro
  simp only [Try.ntmps34, List.size_toArray, List.length_cons, List.length_nil, Nat.reduceAdd, Nat.reduceSub, Array.replicate_succ, Array.replicate_zero, List.push_toArray, List.append_toArray, List.nil_append, List.cons_append]
  gi_wp2
  go_ret
  exact ⟨rfl, rfl⟩

def boxesOf (B B' : Nat) (s : ByteArray) (b : Int) : List (Nat × TypeId × Value) := [(B, 9, .string s), (B', 5, .int .u8 b)]
theorem boxesOf_iff {B B' : Nat} {s : ByteArray} {b : Int} {W : World} : BoxesIn (boxesOf B B' s b) W ↔ Boxed W B 9 (.string s) ∧ Boxed W B' 5 (.int .u8 b) := by
  constructor
  · intro h
    exact ⟨h (B, 9, .string s) (by simp [boxesOf]), h (B', 5, .int .u8 b) (by simp [boxesOf])⟩
  · rintro ⟨h1, h2⟩ p hp
    simp only [boxesOf, List.mem_cons, List.not_mem_nil, or_false] at hp
    rcases hp with rfl | rfl
    · exact h1
    · exact h2

theorem boxesIn_drewN {bs : List (Nat × TypeId × Value)} {W : World} (h : BoxesIn bs W) (q : Nat) : BoxesIn bs (W.drewN q) := h
set_option maxRecDepth 100000 in
set_option maxHeartbeats 4000000 in
/-- The closure: the parts, in order, for every loop body that keeps the two boxes. -/
theorem parts1_in (n : Nat) (hn : 1 ≤ n) (l B B' n₀ : Nat) (s : ByteArray) (b : Int) (hs : s.size ≤ 1099511627776) (J Jx : List ByteArray → World → Prop) (hJ : ∀ (pre : List ByteArray) (W : World) (q : Nat), J pre W → J pre (W.drewN q))
    (hY : ∀ (pre : List ByteArray) (x : ByteArray) (W : World), x.size ≤ s.size → J pre W → pre.length < s.size + 1 → YieldAt Fence.wide (n - 1) Try.prog l #[.string x] W fun e W' =>
      (e = .returned (.bool true) ∧ J (pre ++ [x]) W' ∧ KpBs n₀ (boxesOf B B' s b) W W') ∨ (e = .returned (.bool false) ∧ Jx (pre ++ [x]) W'))
    (W : World) (hb : BoxesIn (boxesOf B B' s b) W) (h0 : J [] W) :
    CallsIn Fence.wide n Try.prog 44 #[.func (.yield l) #[] #[], .pointer (some ⟨B, 0, none⟩), .pointer (some ⟨B', 0, none⟩)] W fun e W' => (∃ v, e = .returned v) ∧
      ((∃ ys, ys = partsOf s b ∧ J ys W') ∨ (∃ pre, (∃ k, k ≤ s.size ∧ cutAt s b k = true ∧ pre = (pf s b (k + 1)).1) ∧ Jx pre W')) := by
  refine callsIn_of_wp Try.func44 rfl trivial ?_ rfl
  simp only [Try.ntmps44, List.size_toArray, List.length_cons, List.length_nil, Nat.reduceAdd, Nat.reduceSub, Array.replicate_succ, Array.replicate_zero, List.push_toArray, List.append_toArray, List.nil_append, List.cons_append]
  gi_wp2
  gi_loopw [4, 5] (fun fr i wr => ∃ k : Nat, k ≤ s.size + 1 ∧ i = .int .i64 k ∧ fr = .int .i64 ((pf s b k).2 : Nat) ∧ J (pf s b k).1 wr ∧ Aside0 (BoxesIn (boxesOf B B' s b) wr))
    (fun _ i _ => s.size + 1 - (intOf i).toNat)
  case atStart => exact ⟨0, by omega, rfl, rfl, h0, ⟨hb⟩⟩
  case round =>
    obtain ⟨k, hk, rfl, rfl, hJs, HBX⟩ := hrel
    obtain ⟨bx1, bx2⟩ := boxesOf_iff.1 HBX.out
    have hc1 := bx1.cell
    have hc2 := bx2.cell
    obtain ⟨fr, hfr⟩ : ∃ fr, fr = (pf s b k).2 := ⟨_, rfl⟩
    have hfk : fr ≤ k := by rw [hfr]; exact pf_from s b k
    rw [← hfr]
    have HFR := Aside0.mk hfr
    clear hfr
    by_cases hle : k ≤ s.size
    · have hfs : fr ≤ s.size := by omega
      cases hcut : cutAt s b k with
      | true =>
        have hpl := pf_len s b k
        have HC := Aside0.mk hcut
        by_cases hlt : k < s.size
        · have hg := cut_get (b := b) hlt
          rw [hcut] at hg
          have hd1 : decide ((k : Int) < (s.size : Int)) = true := decide_eq_true (by omega)
          have hne : (((s[k]'hlt).toNat : Int) != b) = false := by rw [bne_eq_false_iff_eq]; exact eq_of_beq hg.symm
          clear hcut hg
          gi_wp2
          gi_quiet (fail)
          obtain ⟨fn, tmps, assign, body, hy, hR⟩ := hY _ (s.extract fr k) (wr.drewN nq) (by rw [ByteArray.size_extract]; omega) (hJ _ _ _ hJs) (by omega)
          gi_wp2
          refine hR.mono ?_
          rintro e W3 (⟨rfl, hJ3, hk3⟩ | ⟨rfl, hJx3⟩)
          · gi_wp2
            go_roundw
            case rel => exact ⟨k + 1, by omega, by go_num, by rw [pf_hit HC.out]; go_num, by rw [pf_hit HC.out, ← HFR.out]; exact hJ3, ⟨hk3.2 (boxesIn_drewN HBX.out _)⟩⟩
            case measure => simp [intOf] <;> omega
          · gi_wp2
            refine bodyPost_ret (results_none rfl _ _ _) rfl ?_
            exact ⟨⟨_, rfl⟩, .inr ⟨_, ⟨k, hle, HC.out, by rw [pf_hit HC.out, ← HFR.out]⟩, hJx3⟩⟩
        · obtain rfl : k = s.size := by omega
          have hd1 : decide ((s.size : Int) < (s.size : Int)) = false := decide_eq_false (by omega)
          clear hcut
          gi_wp2
          gi_quiet (fail)
          obtain ⟨fn, tmps, assign, body, hy, hR⟩ := hY _ (s.extract fr s.size) (wr.drewN nq) (by rw [ByteArray.size_extract]; omega) (hJ _ _ _ hJs) (by omega)
          gi_wp2
          refine hR.mono ?_
          rintro e W3 (⟨rfl, hJ3, hk3⟩ | ⟨rfl, hJx3⟩)
          · gi_wp2
            go_roundw
            case rel => exact ⟨s.size + 1, by omega, by go_num, by rw [pf_hit HC.out]; go_num, by rw [pf_hit HC.out, ← HFR.out]; exact hJ3, ⟨hk3.2 (boxesIn_drewN HBX.out _)⟩⟩
            case measure => simp [intOf] <;> omega
          · gi_wp2
            refine bodyPost_ret (results_none rfl _ _ _) rfl ?_
            exact ⟨⟨_, rfl⟩, .inr ⟨_, ⟨s.size, hle, HC.out, by rw [pf_hit HC.out, ← HFR.out]⟩, hJx3⟩⟩
      | false =>
        have HC := Aside0.mk hcut
        have hlt : k < s.size := by
          rcases Nat.lt_or_ge k s.size with h9 | h9
          · exact h9
          · have e9 : k = s.size := by omega
            rw [e9, cut_end] at hcut; cases hcut
        have hg := cut_get (b := b) hlt
        rw [hcut] at hg
        have hd1 : decide ((k : Int) < (s.size : Int)) = true := decide_eq_true (by omega)
        have hne : (((s[k]'hlt).toNat : Int) != b) = true := by rw [bne_iff_ne]; intro e; rw [e] at hg; simp at hg
        clear hcut hg
        gi_wp2
        gi_quiet (fail)
        gi_wp2
        go_roundw
        case rel => exact ⟨k + 1, by omega, by go_num, by rw [pf_miss HC.out, ← HFR.out], by rw [pf_miss HC.out]; exact hJ _ _ _ hJs, ⟨boxesIn_drewN HBX.out _⟩⟩
        case measure => simp [intOf] <;> omega
    · obtain rfl : k = s.size + 1 := by omega
      gi_wp2
      go_end0
      exact ⟨⟨_, rfl⟩, .inl ⟨_, rfl, hJs⟩⟩

def PartsAll (s : ByteArray) (b : Int) (ys : List ByteArray) : Prop := ys = partsOf s b
def PartsSome (s : ByteArray) (b : Int) (pre : List ByteArray) : Prop := ∃ k, k ≤ s.size ∧ cutAt s b k = true ∧ pre = (pf s b (k + 1)).1
theorem boxesIn_later {bs : List (Nat × TypeId × Value)} {w W : World} (h : BoxesIn bs w) (hb : Below w.heap.size w W) : BoxesIn bs W := fun p hp => (hb.block p.1 (h p hp).lt).trans (h p hp)
theorem parts_stops (n : Nat) (hn : 1 ≤ n) (B B' n₀ : Nat) (s : ByteArray) (b : Int) (hs : s.size ≤ 1099511627776) (w : World) (hb : BoxesIn (boxesOf B B' s b) w) :
    SeqStopsK Fence.wide n Try.prog 44 #[.pointer (some ⟨B, 0, none⟩), .pointer (some ⟨B', 0, none⟩)] (fun x : ByteArray => #[Value.string x]) (KpBs n₀ (boxesOf B B' s b)) (PartsAll s b) (PartsSome s b) (s.size + 1) w := fun l J Jx W hW hJ _ hY h0 =>
  parts1_in n hn l B B' n₀ s b hs J Jx (fun pre V q hv => hJ pre V _ none hv ⟨rfl, rfl, rfl, Nat.le_refl _, fun _ _ _ => rfl⟩ (fun r e => by cases e)) (fun pre x W1 _ => hY pre x W1) W (boxesIn_later hb hW) h0
/-- A part of s is no longer than s. -/
structure Part (s : ByteArray) : Type where
  val : ByteArray
  le : val.size ≤ s.size
def PartsAllB (s : ByteArray) (b : Int) (ys : List (Part s)) : Prop := ys.map Part.val = partsOf s b
def PartsSomeB (s : ByteArray) (b : Int) (pre : List (Part s)) : Prop := ∃ k, k ≤ s.size ∧ cutAt s b k = true ∧ pre.map Part.val = (pf s b (k + 1)).1
theorem parts_stopsB (n : Nat) (hn : 1 ≤ n) (B B' n₀ : Nat) (s : ByteArray) (b : Int) (hs : s.size ≤ 1099511627776) (w : World) (hb : BoxesIn (boxesOf B B' s b) w) :
    SeqStopsK Fence.wide n Try.prog 44 #[.pointer (some ⟨B, 0, none⟩), .pointer (some ⟨B', 0, none⟩)] (fun x : Part s => #[Value.string x.val]) (KpBs n₀ (boxesOf B B' s b)) (PartsAllB s b) (PartsSomeB s b) (s.size + 1) w := fun l J Jx W hW hJ _ hY h0 => by
  refine (parts1_in n hn l B B' n₀ s b hs (fun pre V => ∃ pre' : List (Part s), pre'.map Part.val = pre ∧ J pre' V) (fun pre V => ∃ pre' : List (Part s), pre'.map Part.val = pre ∧ Jx pre' V) ?_ ?_ W (boxesIn_later hb hW) ⟨[], rfl, h0⟩).mono ?_
  · rintro pre V q ⟨pre', he, hv⟩
    exact ⟨pre', he, hJ pre' V _ none hv ⟨rfl, rfl, rfl, Nat.le_refl _, fun _ _ _ => rfl⟩ (fun r e => by cases e)⟩
  · rintro pre x V hx ⟨pre', rfl, hv⟩ hlt
    obtain ⟨fn, tmps, assign, body, hy, hR⟩ := hY pre' ⟨x, hx⟩ V hv (by rw [List.length_map] at hlt; exact hlt)
    refine ⟨fn, tmps, assign, body, hy, hR.mono ?_⟩
    rintro e V' (⟨he, hj, hk⟩ | ⟨he, hj⟩)
    · exact .inl ⟨he, ⟨_, by simp, hj⟩, hk⟩
    · exact .inr ⟨he, _, by simp, hj⟩
  · rintro e V ⟨hv, h⟩
    refine ⟨hv, ?_⟩
    rcases h with ⟨ys, hys, pre', he, hj⟩ | ⟨pre, hk, pre', he, hj⟩
    · exact .inl ⟨pre', he.trans hys, hj⟩
    · obtain ⟨k, h1, h2, h3⟩ := hk
      exact .inr ⟨pre', ⟨k, h1, h2, he.trans h3⟩, hj⟩

/-! ### words -/
def wordsIn (pre : List ByteArray) : List ByteArray := pre.filter (fun x => !x.toList.isEmpty)
theorem wordsIn_hit (pre : List ByteArray) {x : ByteArray} (h : x.toList.isEmpty = false) : wordsIn (pre ++ [x]) = wordsIn pre ++ [x] := by simp [wordsIn, h]
theorem wordsIn_miss (pre : List ByteArray) {x : ByteArray} (h : x.toList.isEmpty = true) : wordsIn (pre ++ [x]) = wordsIn pre := by simp [wordsIn, h]
theorem wordsIn_len (pre : List ByteArray) : (wordsIn pre).length ≤ pre.length := List.length_filter_le _ _
def wordsOf (s : ByteArray) : List ByteArray := wordsIn (partsOf s 32)
def eventlog_words.f (a0 : ByteArray) : Option (List ByteArray) := if a0.size ≤ 1099511627776 then some (wordsOf a0) else none
theorem info_str : (Try.prog.info? 9).map (fun i => (i.zero, i.size, i.bytes)) = some (some (.string ⟨#[]⟩), 1, 16) := by kernel_rfl

/-- Between two rounds: the words so far. -/
def WordsI (w : World) (s : ByteArray) (pre : List ByteArray) (W : World) : Prop :=
  ((∃ v, Boxed W w.heap.size 34 v ∧ W.ownsRow (w.heap.size + 1 + 1 + 1) 9 1 v (wordsIn pre).length ((wordsIn pre).map Value.string) ∧ True) ∧ (Boxed W (w.heap.size + 1) 9 (.string s) ∧ Boxed W (w.heap.size + 1 + 1) 5 (.int .u8 32))) ∧ Below w.heap.size w W

set_option maxRecDepth 100000 in
set_option maxHeartbeats 4000000 in
theorem eventlog_words.in_ (n : Nat) (hn : 3 ≤ n) (s : ByteArray) (hs : s.size ≤ 1099511627776) (w : World) :
    CallsIn Fence.wide n Try.prog 35 #[.string s] w fun e W' => ∃ v, e = .returned v ∧ W'.ownsRow w.heap.size 9 1 v (wordsOf s).length ((wordsOf s).map Value.string) ∧ Below w.heap.size w W' := by
  have h1 : 1 ≤ n := by omega
  obtain ⟨i0, hi, hz0, hz1, hz2⟩ := info_parts info_str
  refine callsIn_of_wp_marks Try.func35 rfl trivial ?_ rfl
  simp only [Try.ntmps35, List.size_toArray, List.length_cons, List.length_nil, Nat.reduceAdd, Nat.reduceSub, Array.replicate_succ, Array.replicate_zero, List.push_toArray, List.append_toArray, List.nil_append, List.cons_append]
  gi_wp2_with (refine ⟨trivial, ?_⟩; gi_at_call 34; refine (parts_in Fence.wide (n - 1) trivial rfl _ _ _).mono ?_; rintro e w' ⟨rfl, rfl⟩)
  have bO := Boxed.new w 34 (.slice none 0 0)
  have bN := Boxed.new (w.alloc (.cells #[.slice none 0 0] 34)) 9 (.string s)
  have bM := Boxed.new ((w.alloc (.cells #[.slice none 0 0] 34)).alloc (.cells #[.string s] 9)) 5 (.int .u8 32)
  rw [World.size_alloc] at bN
  rw [World.size_alloc, World.size_alloc] at bM
  have hB0 : Below w.heap.size w (((w.alloc (.cells #[.slice none 0 0] 34)).alloc (.cells #[.string s] 9)).alloc (.cells #[.int .u8 32] 5)) := (((Below.refl _ w).alloc (Nat.le_refl _) _).alloc (by simp) _).alloc (by simp; omega) _
  refine wpIn_rangeFunc_ownG (F := Fence.wide) (show Fence.wide.round = none from rfl) h1 (gf := 44) (lb := #[.pointer (some ⟨w.heap.size + 1, 0, none⟩), .pointer (some ⟨w.heap.size + 1 + 1, 0, none⟩)]) rfl trivial (enters_of Try.func44 (by kernel_rfl) rfl)
    (parts_stops (n - 1) (by omega) (w.heap.size + 1) (w.heap.size + 1 + 1) w.heap.size s 32 hs _ (boxesOf_iff.2 ⟨bN.alloc _, bM⟩)) kpBs_t (kpBs_b (by simp; omega)) (Below.refl _ _) (by intro _; rfl)
    (WordsI w s)
    (fun _ _ _ => False)
    (OwnFrom.and (OwnFrom.and (Own.from (holdsRow_own (w.heap.size + 1 + 1 + 1) w.heap.size 34 9 1 (fun pre : List ByteArray => (wordsIn pre).length) (fun pre : List ByteArray => (wordsIn pre).map Value.string) (fun _ _ => True)) _) (OwnFrom.and (Own.from (boxed_own _ _ _) _) (Own.from (boxed_own _ _ _) _))) (ownFrom_below (Nat.le_refl _) (by simp; omega)))
    (fun _ _ _ _ _ hs _ _ => hs)
    ⟨⟨⟨_, (bO.alloc _).alloc _, World.ownsRow_nil _ _ _ _, trivial⟩, bN.alloc _, bM⟩, hB0⟩
    (fun x => { tmps := #[.string s, undef, .slice none 0 0, .pointer (some ⟨w.heap.size, 0, none⟩), .string x, .string s, .func (.func 44) #[] #[.pointer (some ⟨w.heap.size + 1, 0, none⟩), .pointer (some ⟨w.heap.size + 1 + 1, 0, none⟩)], .string x, undef, undef, undef, undef, undef, undef, undef], defers := [] }) ?assign ?body ?done ?stop
  case assign =>
    intro l x W K hK
    gi_wp2
    exact hK
  case body =>
    rintro l pre x W ⟨⟨⟨v, hv, hrow, _⟩, hb1, hb2⟩, hB⟩ hlt
    have hc := hv.cell
    have hwl := wordsIn_len pre
    cases hx : x.toList.isEmpty with
    | true =>
      have hxl : x.toList = [] := List.isEmpty_iff.1 hx
      have hx2 : (!x.toList.isEmpty) = false := by rw [hx]; rfl
      have HX := Aside0.mk hx
      gi_wp2
      exact ⟨KeepsFrom.refl _ _, kpBs_refl _ _ _, ⟨⟨v, hv, by rw [wordsIn_miss pre HX.out]; exact hrow, trivial⟩, hb1, hb2⟩, hB⟩
    | false =>
      have hx2 : (!x.toList.isEmpty) = true := by rw [hx]; rfl
      have HX := Aside0.mk hx
      have hxl : ¬ x.toList = [] := fun h => by rw [h] at hx; simp at hx
      have hlt2 := hb2.lt
      have hne0 : some (w.heap.size + 1) ≠ v.ownBlock := fun e => by have := own_base hrow _ e.symm; omega
      gi_wp2_with (gi_at_builtin; refine wpListIn_append_own _ rfl _ _ 34 rfl (w.heap.size + 1 + 1 + 1) 9 i0 (.string ⟨#[]⟩) 1 16 Try.underlying34 hi hz0 hz1 hz2 rfl (by decide) _ _ _ rfl (hrow.alloc _) ⟨W.heap.size, 0, none⟩ 1 1 [.string x] rfl rfl (cell_one_new _ _ _) (by simp [Value.oneCell']) (by unfold maxLen; omega) (by omega) (by simp; omega) ?_; intro v' w1 hown' hgrow _; obtain ⟨g', cap', rfl⟩ := ownsRow_succ hown'; obtain ⟨hv1, hv2, hr2, hk2, hb2'⟩ := hv.appended (by decide) (own_weaken hrow (show w.heap.size ≤ w.heap.size + 1 + 1 + 1 by omega)) hB.size (Nat.le_refl _) (own_weaken hown' (show w.heap.size ≤ w.heap.size + 1 + 1 + 1 by omega)) hgrow; have hc1 := hv1.cell; have hf1 := hv1.frozen; have hne1 : some (w.heap.size + 1 + 1) ≠ v.ownBlock := hb2.not_row (by decide) hrow; have hb2k := (hb2.alloc (.cells #[.string x] 9)).kept hgrow hne1; have hb1k := (hb1.alloc (.cells #[.string x] 9)).kept hgrow hne0; have HOW := Aside0.mk hown'; clear hown')
      have hr3 := HOW.out.kept (grownBy_setCell' w1 w.heap.size (.slice (some ⟨g', 0, none⟩) ((wordsIn pre).length + 1) cap')) (.inr (hv1.not_row (by decide) HOW.out).symm)
      have hb1s := hb1k.other (B' := w.heap.size) (by simp) (.slice (some ⟨g', 0, none⟩) ((wordsIn pre).length + 1) cap')
      have hb2s := hb2k.other (B' := w.heap.size) (by simp; omega) (.slice (some ⟨g', 0, none⟩) ((wordsIn pre).length + 1) cap')
      exact ⟨hk2.from _, ⟨hb2', fun _ => boxesOf_iff.2 ⟨hb1s, hb2s⟩⟩, ⟨⟨_, hv2, by rw [wordsIn_hit pre HX.out]; simpa using hr3, trivial⟩, hb1s, hb2s⟩, hB.trans hb2'⟩
  case done =>
    rintro D ys W hD rfl ⟨⟨⟨v, hv, hrow, _⟩, hb1, hb2⟩, hB⟩ hK
    have hc := hv.cell
    gi_wp2
    refine ⟨by simp, .inl ⟨_, _, rfl, run_takeDeferred hK, ?_⟩⟩
    exact ⟨_, results_tmp rfl _ _ _, v, rfl, own_weaken (ownsRow_putObj hrow _ hK rfl) (by omega), hB.trans (belowK_b (w := w) (Nat.le_refl _) W D _ _ (by simp at hD; omega) hK rfl rfl)⟩
  case stop =>
    rintro D c pre W _ _ h _
    exact h.elim

theorem eventlog_words.calls (a0 : ByteArray) (r : List ByteArray) (w : World) (h : eventlog_words.f a0 = some r) :
    Calls Try.prog 35 #[.string a0] w fun e w' => ∃ v0_ : Value, e = .returned (v0_) ∧ Kd.R Kd.string 9 w' w.heap.size (fun _ => True) v0_ r ∧ Below w.heap.size w w' := by
  unfold eventlog_words.f at h
  split at h
  · rename_i hs
    obtain rfl := Option.some.inj h
    refine (callsIn_wide (n := 3)).1 ((eventlog_words.in_ 3 (by omega) a0 hs w).mono ?_)
    rintro e W' ⟨v, rfl, hr, hb⟩
    exact ⟨v, rfl, Kd.R_of_own hr (fun _ _ => trivial), hb⟩
  · cases h


end



section
-- STUBBED 22
/-! ### eventlog_Name: function 22: by hand -/
open Go.Proofs.Ytaofommgdgmncaa.Names

def eventlog_Name.f (a0 : ByteArray) : Option (Bool) := some (nameB a0)

set_option maxHeartbeats 4000000 in
set_option maxRecDepth 100000 in
theorem eventlog_Name.calls (a0 : ByteArray) (r : Bool) (w : World) (h : eventlog_Name.f a0 = some r) :
    Calls Try.prog 22 #[.string a0] w fun e w' => e = .returned (.bool r) ∧ Below w.heap.size w w' := by
  have HR := Aside0.mk (show nameB a0 = r from Option.some.inj h)
  clear h
  by_cases h1 : 1 ≤ a0.size
  · by_cases h2 : a0.size ≤ 16
    · have g1 : ¬ (a0.size : Int) < 1 := by omega
      have g2 : ¬ (16 : Int) < (a0.size : Int) := by omega
      go_enter Try.func22, Try.ntmps22
      go_wp2
      go_loopw [3] (fun _ w' => ∃ pos : Nat, w' = w.iter a0 pos ∧ pos ≤ a0.size ∧ Aside0 (∀ i, i < pos → okB i (byteAt a0 i) = true)) (fun _ w' => a0.size - w'.iterPos w.heap.size)
      case atStart => exact ⟨0, rfl, Nat.zero_le _, ⟨fun i h => absurd h (Nat.not_lt_zero _)⟩⟩
      case round =>
        obtain ⟨pos, rfl, hpos, HA⟩ := hrel
        by_cases hp : pos < a0.size
        · have hnx : ∀ ty, (Instr.next (.pointer (some ⟨w.heap.size, 0, none⟩)) true ty).run Try.prog (w.iter a0 pos) = _ := fun ty => run_next_any w a0 pos ty hp
          obtain ⟨c, hc⟩ : ∃ c, c = byteAt a0 pos := ⟨_, rfl⟩
          by_cases hlo : c < 128
          · have hd := rune_low a0 pos hp (by omega)
            rw [← hc] at hd
            rw [hd] at hnx
            have HC := Aside0.mk hc
            clear hd hc
            go_wp2
            all_goals first
              | (go_roundw
                 case rel =>
                   refine ⟨pos + 1, rfl, by omega, ⟨fun i hi => ?_⟩⟩
                   by_cases e : i = pos
                   · rw [e, ← HC.out]
                     exact okB_of (by first | omega | (have h46 := is46 ‹_›; omega))
                   · exact HA.out i (by omega)
                 case measure => simp; omega)
              | (have hr : r = false := HR.out.symm.trans (nameB_false hp (by rw [← HC.out]; exact okB_not (by first | omega | (have h46 := not46 ‹_›; omega))))
                 go_ret
                 exact ⟨by rw [hr]; rfl, below_iter _ _ _⟩)
          · have hd := rune_high a0 pos hp (by omega)
            have hr : r = false := HR.out.symm.trans (nameB_false hp (by rw [← hc]; exact okB_high hlo))
            obtain ⟨u, hu⟩ : ∃ u, u = (Utf8.decode a0 pos).1 := ⟨_, rfl⟩
            rw [← hu] at hd hnx
            have HR2 := Aside0.mk hr
            have k1 : (97 : Int) ≤ (u : Int) := by omega
            have k2 : ¬ (u : Int) ≤ 122 := by omega
            have k3 : ((u : Int) == 95) = false := by rw [beq_eq_false_iff_ne]; omega
            have k4 : (48 : Int) ≤ (u : Int) := by omega
            have k5 : ¬ (u : Int) ≤ 57 := by omega
            have k6 : ((u : Int) == 46) = false := by rw [beq_eq_false_iff_ne]; omega
            clear hr hu hc hlo
            go_wp2
            all_goals
              go_ret
              exact ⟨by rw [HR2.out]; rfl, below_iter _ _ _⟩
        · have hnx : ∀ ty, (Instr.next (.pointer (some ⟨w.heap.size, 0, none⟩)) true ty).run Try.prog (w.iter a0 pos) = _ := fun ty => run_next_end w a0 pos ty hp
          obtain rfl : pos = a0.size := by omega
          go_wp2
          go_ret
          have hr : r = true := HR.out.symm.trans (nameB_true h1 h2 HA.out)
          exact ⟨by rw [hr]; rfl, below_iter _ _ _⟩
    · have HF := Aside0.mk (show nameB a0 = false by unfold nameB; simp [h2])
      have g1 : ¬ (a0.size : Int) < 1 := by omega
      have g2 : (16 : Int) < (a0.size : Int) := by omega
      go_enter Try.func22, Try.ntmps22
      go_wp2
      go_ret
      have hr : r = false := HR.out.symm.trans HF.out
      exact ⟨by rw [hr]; rfl, Below.refl _ _⟩
  · have HF := Aside0.mk (show nameB a0 = false by unfold nameB; simp [h1])
    have g1 : (a0.size : Int) < 1 := by omega
    go_enter Try.func22, Try.ntmps22
    go_wp2
    go_ret
    have hr : r = false := HR.out.symm.trans HF.out
    exact ⟨by rw [hr]; rfl, Below.refl _ _⟩


end



/-! ### eventlog_trace: function 36 -/
mutual
def eventlog_trace.j0 : Nat → List ByteArray → Bool → Option (List ByteArray × Bool)
 | 0, _, _ => none
 | k + 1, x0, x14 => if x14 = true then (some (([] : List ByteArray), true)) else (eventlog_trace.l0 k x0 x0 (x0.length : Int) 0)
def eventlog_trace.l0 : Nat → List ByteArray → List ByteArray → Int → Int → Option (List ByteArray × Bool)
 | 0, _, _, _, _ => none
 | k + 1, x0, x15, x16, x17 => if x17 < x16 then (if 0 ≤ x17 then (if x17 < (x15.length : Int) then ((eventlog_Name.f (rdOf ByteArray.empty x15 x17)).bind fun t103 => (if t103 = true then (eventlog_trace.l0 k x0 x15 x16 (wrap64 (x17 + 1))) else (some (([] : List ByteArray), false)))) else (none)) else (none)) else (some (x0, true))
end
def eventlog_trace.f (k : Nat) (l0 : List ByteArray) : Option (List ByteArray × Bool) := if (l0.length : Int) = 1 then (if 0 < (l0.length : Int) then (eventlog_trace.j0 k l0 ((rdOf ByteArray.empty l0 0).toList == ([45] : List UInt8))) else (none)) else (eventlog_trace.j0 k l0 false)
theorem eventlog_trace.mono_l : ∀ k, (∀ y0 y1, LeO (eventlog_trace.j0 k y0 y1) (eventlog_trace.j0 (k + 1) y0 y1)) ∧ (∀ y0 y1 y2 y3, LeO (eventlog_trace.l0 k y0 y1 y2 y3) (eventlog_trace.l0 (k + 1) y0 y1 y2 y3))
 | 0 => ⟨fun _ _ r h => by simp [eventlog_trace.j0] at h, fun _ _ _ _ r h => by simp [eventlog_trace.l0] at h⟩
 | k + 1 => by
  obtain ⟨ih0, ih1⟩ := eventlog_trace.mono_l k
  refine ⟨?_, ?_⟩
  ·
   intro y0 y1
   unfold eventlog_trace.j0
   repeat' first
   | (with_reducible exact ih0 _ _)
   | (with_reducible exact ih1 _ _ _ _)
   | (with_reducible exact LeO.refl _)
   | (with_reducible exact LeO.none _)
   | (with_reducible refine LeO.ite ?_ ?_)
   | (with_reducible refine LeO.bind ?_ (fun _ => ?_))
   | exact ih0 _ _
   | exact ih1 _ _ _ _
   | exact LeO.none _
   | refine LeO.ite ?_ ?_
   | refine LeO.bind ?_ (fun _ => ?_)
  ·
   intro y0 y1 y2 y3
   unfold eventlog_trace.l0
   repeat' first
   | (with_reducible exact ih0 _ _)
   | (with_reducible exact ih1 _ _ _ _)
   | (with_reducible exact LeO.refl _)
   | (with_reducible exact LeO.none _)
   | (with_reducible refine LeO.ite ?_ ?_)
   | (with_reducible refine LeO.bind ?_ (fun _ => ?_))
   | exact ih0 _ _
   | exact ih1 _ _ _ _
   | exact LeO.none _
   | refine LeO.ite ?_ ?_
   | refine LeO.bind ?_ (fun _ => ?_)
theorem eventlog_trace.mono : ∀ a0 k, LeO (eventlog_trace.f k a0) (eventlog_trace.f (k + 1) a0) := by
 intro a0 k
 obtain ⟨ih0, ih1⟩ := eventlog_trace.mono_l k
 unfold eventlog_trace.f
 repeat' first
   | (with_reducible exact ih0 _ _)
   | (with_reducible exact ih1 _ _ _ _)
   | (with_reducible exact LeO.refl _)
   | (with_reducible exact LeO.none _)
   | (with_reducible refine LeO.ite ?_ ?_)
   | (with_reducible refine LeO.bind ?_ (fun _ => ?_))
   | exact ih0 _ _
   | exact ih1 _ _ _ _
   | exact LeO.none _
   | refine LeO.ite ?_ ?_
   | refine LeO.bind ?_ (fun _ => ?_)
set_option maxHeartbeats 8000000 in
set_option maxRecDepth 100000 in
theorem eventlog_trace.calls (k : Nat) (P0_ : Nat → Prop) (u9000_ : Value) (l0 : List ByteArray) (r1 : List ByteArray) (r2 : Bool) (w0 w : World) (hB : Below w0.heap.size w0 w) (ho0 : Kd.R Kd.string 9 w w0.heap.size P0_ u9000_ l0) (h : eventlog_trace.f k l0 = some (r1, r2)) :
  Calls Try.prog 36 #[u9000_] w fun e w' => ∃ v0_ : Value, e = .returned (.tuple #[v0_, .bool r2]) ∧ Kd.R Kd.string 9 w' w0.heap.size (fun k_ => (P0_ k_ ∨ w.heap.size ≤ k_)) v0_ r1 ∧ Below w0.heap.size w0 w' ∧ Kept w w' (fun k_ => P0_ k_) := by
 have HO0 := Aside0.mk (show Kd.R Kd.string 9 w w0.heap.size (fun k_ => (P0_ k_ ∨ w.heap.size ≤ k_)) u9000_ l0 from Kd.R_mono ho0 (fun k_ hk => (.inl hk)))
 have HK := Aside0.mk (Kept.refl w (fun k_ => P0_ k_))
 have HW0 := Aside0.mk hB.size
 have HB := Aside0.mk hB
 clear hB
 have H : (if (l0.length : Int) = 1 then (if 0 < (l0.length : Int) then (eventlog_trace.j0 k l0 ((rdOf ByteArray.empty l0 0).toList == ([45] : List UInt8))) else (none)) else (eventlog_trace.j0 k l0 false)) = some (r1, r2) := h
 clear h
 have HC2 := Aside0.mk H
 clear H
 go_enter Try.func36, Try.ntmps36
 go_upto_region 1 with (fail)
 go_cut [14] (fun v14 wc => ∃ (kq : Nat) (x14_1 : Bool), v14 = .bool x14_1 ∧ Aside0 (eventlog_trace.j0 kq l0 x14_1 = some (r1, r2)) ∧ Aside0 (kq ≤ k) ∧ Aside0 (Kd.R Kd.string 9 wc w0.heap.size (fun k_ => (P0_ k_ ∨ w.heap.size ≤ k_)) u9000_ l0) ∧ Aside0 (Kept w wc (fun k_ => P0_ k_)) ∧ Aside0 (Below w0.heap.size w0 wc))
 case first =>
  have H := HC2.out
  clear HC2
  by_cases c3 : (l0.length : Int) = 1
  ·
   rw [if_pos c3] at H
   have c3b0 : ((l0.length : Int) == 1) = true := beq_iff_eq.mpr c3
   have c3b1 : ((l0.length : Int) != 1) = false := bne_eq_false_iff_eq.mpr c3
   clear c3
   (first | rw [c3b0] | (simp only [i64_w, i32_w]; rw [c3b0]) | skip)
   by_cases c4 : 0 < (l0.length : Int)
   ·
    rw [if_pos c4] at H
    have c4b0 : decide (0 < (l0.length : Int)) = true := decide_eq_true c4
    have c4b1 : decide (0 < l0.length) = true := decide_eq_true (by omega)
    clear c4
    have H' := Aside0.mk H
    clear H
    obtain ⟨Ao5, co5, eo5⟩ := Kd.R_slice HO0.out
    subst eo5
    have p101 : 0 ≤ (0 : Int) := (by omega)
    have q101 : 0 < (l0.length : Int) := of_decide_eq_true (by first | (with_reducible assumption) | assumption)
    obtain ⟨ad101, e101, hx101_0⟩ := Kd.at_string (Kd.R_reads' HO0.out).2.2 0 p101 q101
    cases e101
    have qi101 : (0 < l0.length) = True := eq_true (by omega)
    (try rw [show ((0 : Int)).toNat = 0 from rfl] at hx101_0)
    (try rw [Addr.add_zero'] at hx101_0)
    replace p101 := eq_true p101
    replace q101 := eq_true q101
    go_wp2
    go_meet
    case rel => exact ⟨_, (((rdOf ByteArray.empty l0 0).toList == ([45] : List UInt8))), (by first | rfl | (simp; done) | (simp [*]; done) | (simp [i64_w]; done)), H', ⟨by first | omega | exact Nat.le_refl _⟩, ⟨by (with_reducible repeat (first | apply Kd.R_alloc | apply Kd.R_drewN | apply Kd.R_drew)); exact HO0.out⟩, ⟨by repeat (first | (with_reducible first | exact HK.out | apply Kept.alloc | apply Kept.drewN | apply Kept.drew) | exact HK.out)⟩, ⟨by repeat (first | (with_reducible first | exact HB.out | apply below_alloc | apply pw_below_drewN | apply below_drew1) | exact HB.out)⟩⟩
   ·
    rw [if_neg c4] at H
    exact absurd H (by simp)
  ·
   rw [if_neg c3] at H
   have c3b0 : ((l0.length : Int) == 1) = false := beq_eq_false_iff_ne.mpr c3
   have c3b1 : ((l0.length : Int) != 1) = true := bne_iff_ne.mpr c3
   (first | rw [c3b0] | (simp only [i64_w, i32_w]; rw [c3b0]) | skip)
   have H' := Aside0.mk H
   clear H
   obtain ⟨Ao6, co6, eo6⟩ := Kd.R_slice HO0.out
   subst eo6
   go_wp2
   go_meet
   case rel => exact ⟨_, (false), (by first | rfl | (simp; done) | (simp [*]; done) | (simp [i64_w]; done)), H', ⟨by first | omega | exact Nat.le_refl _⟩, ⟨by (with_reducible repeat (first | apply Kd.R_alloc | apply Kd.R_drewN | apply Kd.R_drew)); exact HO0.out⟩, ⟨by repeat (first | (with_reducible first | exact HK.out | apply Kept.alloc | apply Kept.drewN | apply Kept.drew) | exact HK.out)⟩, ⟨by repeat (first | (with_reducible first | exact HB.out | apply below_alloc | apply pw_below_drewN | apply below_drew1) | exact HB.out)⟩⟩
 case rest =>
  clear HC2
  try clear p1
  try clear q1
  try clear hx1
  try clear qi1
  try clear p2
  try clear c3
  try clear c3b0
  try clear c3b1
  try clear c4
  try clear c4b0
  try clear c4b1
  try clear hx101_0
  try clear p101
  try clear q101
  obtain ⟨kq, x14_1, rfl, HA, HJ1, HO_0, HK, HB⟩ := hcut
  cases kq with
  | zero => exact absurd HA.out (by simp [eventlog_trace.j0])
  | succ kj1 =>
   have H := HA.out
   clear HA
   simp only [eventlog_trace.j0] at H
   by_cases c7 : x14_1 = true
   ·
    subst c7
    have H1 : (some (([] : List ByteArray), true)) = some (r1, r2) := by rw [if_pos rfl] at H; exact H
    clear H
    have H := H1
    clear H1
    simp only [Option.some.injEq, Prod.mk.injEq] at H
    obtain ⟨rfl, rfl⟩ := H
    go_wp2
    go_ret2
    exact ⟨_, by first | rfl | (simp [errW_none, errW_some] <;> rfl) | (simp [*, errW_none, errW_some] <;> rfl), by first | exact Kd.R_nil _ _ _ _ _ | exact Kd.N_nil _ _ _ _ _ | exact Kd.V_nil _ _ _ _ _ | exact Kd.Q_nil _ _ _ _ _ | exact Kd.S_nil _ _ _ _ _, by repeat (first | (with_reducible first | exact HB.out | apply below_alloc | apply pw_below_drewN | apply below_drew1) | exact HB.out), by repeat (first | (with_reducible first | exact HK.out | apply Kept.alloc | apply Kept.drewN | apply Kept.drew) | exact HK.out)⟩
   ·
    replace c7 := Bool.eq_false_iff.mpr c7
    subst c7
    have H1 : (eventlog_trace.l0 kj1 l0 l0 (l0.length : Int) 0) = some (r1, r2) := by rw [if_neg (show ¬ (false = true) by decide)] at H; exact H
    clear H
    have H := H1
    clear H1
    have H' := Aside0.mk H
    clear H
    obtain ⟨Ao8, co8, eo8⟩ := Kd.R_slice HO_0.out
    subst eo8
    go_wp2
    go_loopg [17] kj1 (fun kq v17 w' => ∃ (x17_2 : Int), v17 = .int .i64 x17_2 ∧ Aside0 (eventlog_trace.l0 kq l0 l0 (l0.length : Int) x17_2 = some (r1, r2)) ∧ Aside0 (kq ≤ kj1) ∧ Aside0 (Kd.R Kd.string 9 w' w0.heap.size (fun k_ => (P0_ k_ ∨ w.heap.size ≤ k_)) (.slice Ao8 l0.length co8) l0) ∧ Aside0 (Kd.R Kd.string 9 w' w0.heap.size (fun k_ => (P0_ k_ ∨ w.heap.size ≤ k_)) (.slice Ao8 l0.length co8) l0) ∧ Aside0 (Kept w w' (fun k_ => P0_ k_)) ∧ Aside0 (Below w0.heap.size w0 w'))
    case atStart => exact ⟨(0), (by first | rfl | (simp; done) | (simp [*]; done) | (simp [i64_w]; done)), H', ⟨Nat.le_refl _⟩, ⟨by (with_reducible repeat (first | apply Kd.R_alloc | apply Kd.R_drewN | apply Kd.R_drew)); exact HO_0.out⟩, ⟨by (with_reducible repeat (first | apply Kd.R_alloc | apply Kd.R_drewN | apply Kd.R_drew)); exact HO_0.out⟩, ⟨by repeat (first | (with_reducible first | exact HK.out | apply Kept.alloc | apply Kept.drewN | apply Kept.drew) | exact HK.out)⟩, ⟨by repeat (first | (with_reducible first | exact HB.out | apply below_alloc | apply pw_below_drewN | apply below_drew1) | exact HB.out)⟩⟩
    case round =>
     clear H'
     try clear p1
     try clear q1
     try clear hx1
     try clear qi1
     try clear p2
     try clear c3
     try clear c3b0
     try clear c3b1
     try clear c4
     try clear c4b0
     try clear c4b1
     try clear c7
     try clear hx101_0
     try clear p1
     try clear p101
     try clear p2
     try clear q1
     try clear q101
     obtain ⟨x17_2, rfl, HA, HK2, HO_0, HO_15, HK, HB⟩ := hrel
     cases gk with
     | zero => exact absurd HA.out (by simp [eventlog_trace.l0])
     | succ k2 =>
      have H := HA.out
      clear HA
      simp only [eventlog_trace.l0] at H
      by_cases c9 : x17_2 < (l0.length : Int)
      ·
       rw [if_pos c9] at H
       have c9b0 : decide (x17_2 < (l0.length : Int)) = true := decide_eq_true c9
       clear c9
       by_cases c10 : 0 ≤ x17_2
       ·
        rw [if_pos c10] at H
        have c10b0 : decide (0 ≤ x17_2) = true := decide_eq_true c10
        clear c10
        by_cases c11 : x17_2 < (l0.length : Int)
        ·
         rw [if_pos c11] at H
         have c11b0 : decide (x17_2 < (l0.length : Int)) = true := decide_eq_true c11
         clear c11
         replace H := Option.bind_eq_some_iff.mp H
         obtain ⟨t103, A120, H⟩ := H
         replace H : (if t103 = true then (eventlog_trace.l0 k2 l0 l0 (l0.length : Int) (wrap64 (x17_2 + 1))) else (some (([] : List ByteArray), false))) = some (r1, r2) := H
         have A12 := Aside0.mk A120
         clear A120
         by_cases c13 : t103 = true
         ·
          subst c13
          have H1 : (eventlog_trace.l0 k2 l0 l0 (l0.length : Int) (wrap64 (x17_2 + 1))) = some (r1, r2) := by rw [if_pos rfl] at H; exact H
          clear H
          have H := H1
          clear H1
          have H' := Aside0.mk H
          clear H
          have p102 : 0 ≤ (x17_2 : Int) := of_decide_eq_true (by first | (with_reducible assumption) | assumption)
          have q102 : x17_2 < (l0.length : Int) := of_decide_eq_true (by first | (with_reducible assumption) | assumption)
          obtain ⟨ad102, e102, hx102_0⟩ := Kd.at_string (Kd.R_reads' HO_15.out).2.2 x17_2 p102 q102
          cases e102
          replace p102 := eq_true p102
          replace q102 := eq_true q102
          go_wp2_with (first | ((with_reducible refine gate_callee (f := 22) rfl ?_); refine goesL_ (some 22) rfl rfl Try.func22 (by kernel_rfl) rfl #[.string (rdOf ByteArray.empty l0 x17_2)] rfl (by (try simp only [List.map_toArray, List.map_cons, List.map_nil]); first | done | rfl | (simp only [List.length_drop, List.length_take]; rfl)) ?_; (with_reducible refine (eventlog_Name.calls (rdOf ByteArray.empty l0 x17_2) true _ A12.out).mono ?_); rintro e w14 ⟨rfl, hb⟩; refine ⟨_, rfl, ?_⟩; have n0_ := Aside0.mk (Kd.R_below (by (with_reducible repeat (first | apply Kd.R_alloc | apply Kd.R_drewN | apply Kd.R_drew)); exact HO_0.out) hb); have n1_ := Aside0.mk (Kd.R_below (by (with_reducible repeat (first | apply Kd.R_alloc | apply Kd.R_drewN | apply Kd.R_drew)); exact HO_15.out) hb); have n2_ := Aside0.mk (Kept.below (S := (fun k_ => P0_ k_)) (by repeat (first | (with_reducible first | exact HK.out | apply Kept.alloc | apply Kept.drewN | apply Kept.drew) | exact HK.out)) hb); have n3_ := Aside0.mk (below_step (by repeat (first | (with_reducible first | exact HB.out | apply below_alloc | apply pw_below_drewN | apply below_drew1) | exact HB.out)) hb); clear HO_0; clear HO_15; clear HK; clear HB; have HO_0 := n0_; have HO_15 := n1_; have HK := n2_; have HB := n3_; clear n0_ n1_ n2_ n3_; (try clear hb); (try clear hb2); (try clear hk); (try clear hi)))
          go_roundg k2
          case measure => have := HJ1.out; have := HK2.out; omega
          case rel => exact ⟨(wrap64 (x17_2 + 1)), (by first | rfl | (simp; done) | (simp [*]; done) | (simp [i64_w]; done)), H', ⟨by have := HJ1.out; have := HK2.out; omega⟩, ⟨by (with_reducible repeat (first | apply Kd.R_alloc | apply Kd.R_drewN | apply Kd.R_drew)); exact HO_0.out⟩, ⟨by (with_reducible repeat (first | apply Kd.R_alloc | apply Kd.R_drewN | apply Kd.R_drew)); exact HO_15.out⟩, ⟨by repeat (first | (with_reducible first | exact HK.out | apply Kept.alloc | apply Kept.drewN | apply Kept.drew) | exact HK.out)⟩, ⟨by repeat (first | (with_reducible first | exact HB.out | apply below_alloc | apply pw_below_drewN | apply below_drew1) | exact HB.out)⟩⟩
         ·
          replace c13 := Bool.eq_false_iff.mpr c13
          subst c13
          have H1 : (some (([] : List ByteArray), false)) = some (r1, r2) := by rw [if_neg (show ¬ (false = true) by decide)] at H; exact H
          clear H
          have H := H1
          clear H1
          simp only [Option.some.injEq, Prod.mk.injEq] at H
          obtain ⟨rfl, rfl⟩ := H
          have p102 : 0 ≤ (x17_2 : Int) := of_decide_eq_true (by first | (with_reducible assumption) | assumption)
          have q102 : x17_2 < (l0.length : Int) := of_decide_eq_true (by first | (with_reducible assumption) | assumption)
          obtain ⟨ad102, e102, hx102_0⟩ := Kd.at_string (Kd.R_reads' HO_15.out).2.2 x17_2 p102 q102
          cases e102
          replace p102 := eq_true p102
          replace q102 := eq_true q102
          go_wp2_with (first | ((with_reducible refine gate_callee (f := 22) rfl ?_); refine goesL_ (some 22) rfl rfl Try.func22 (by kernel_rfl) rfl #[.string (rdOf ByteArray.empty l0 x17_2)] rfl (by (try simp only [List.map_toArray, List.map_cons, List.map_nil]); first | done | rfl | (simp only [List.length_drop, List.length_take]; rfl)) ?_; (with_reducible refine (eventlog_Name.calls (rdOf ByteArray.empty l0 x17_2) false _ A12.out).mono ?_); rintro e w15 ⟨rfl, hb⟩; refine ⟨_, rfl, ?_⟩; have n0_ := Aside0.mk (Kd.R_below (by (with_reducible repeat (first | apply Kd.R_alloc | apply Kd.R_drewN | apply Kd.R_drew)); exact HO_0.out) hb); have n1_ := Aside0.mk (Kd.R_below (by (with_reducible repeat (first | apply Kd.R_alloc | apply Kd.R_drewN | apply Kd.R_drew)); exact HO_15.out) hb); have n2_ := Aside0.mk (Kept.below (S := (fun k_ => P0_ k_)) (by repeat (first | (with_reducible first | exact HK.out | apply Kept.alloc | apply Kept.drewN | apply Kept.drew) | exact HK.out)) hb); have n3_ := Aside0.mk (below_step (by repeat (first | (with_reducible first | exact HB.out | apply below_alloc | apply pw_below_drewN | apply below_drew1) | exact HB.out)) hb); clear HO_0; clear HO_15; clear HK; clear HB; have HO_0 := n0_; have HO_15 := n1_; have HK := n2_; have HB := n3_; clear n0_ n1_ n2_ n3_; (try clear hb); (try clear hb2); (try clear hk); (try clear hi)))
          go_ret2
          exact ⟨_, by first | rfl | (simp [errW_none, errW_some] <;> rfl) | (simp [*, errW_none, errW_some] <;> rfl), by first | exact Kd.R_nil _ _ _ _ _ | exact Kd.N_nil _ _ _ _ _ | exact Kd.V_nil _ _ _ _ _ | exact Kd.Q_nil _ _ _ _ _ | exact Kd.S_nil _ _ _ _ _, by repeat (first | (with_reducible first | exact HB.out | apply below_alloc | apply pw_below_drewN | apply below_drew1) | exact HB.out), by repeat (first | (with_reducible first | exact HK.out | apply Kept.alloc | apply Kept.drewN | apply Kept.drew) | exact HK.out)⟩
        ·
         rw [if_neg c11] at H
         exact absurd H (by simp)
       ·
        rw [if_neg c10] at H
        exact absurd H (by simp)
      ·
       rw [if_neg c9] at H
       have c9b0 : decide (x17_2 < (l0.length : Int)) = false := decide_eq_false c9
       clear c9
       simp only [Option.some.injEq, Prod.mk.injEq] at H
       obtain ⟨rfl, rfl⟩ := H
       go_wp2
       go_ret2
       exact ⟨_, by first | rfl | (simp [errW_none, errW_some] <;> rfl) | (simp [*, errW_none, errW_some] <;> rfl), by (with_reducible repeat (first | apply Kd.R_alloc | apply Kd.R_drewN | apply Kd.R_drew)); exact HO_0.out, by repeat (first | (with_reducible first | exact HB.out | apply below_alloc | apply pw_below_drewN | apply below_drew1) | exact HB.out), by repeat (first | (with_reducible first | exact HK.out | apply Kept.alloc | apply Kept.drewN | apply Kept.drew) | exact HK.out)⟩




section
-- STUBBED 10
/-! ### eventlog_Parse: function 10: by hand -/
open Go.Shelf Go.Proofs.Ytaofommgdgmncaa.Iter Go.Proofs.Ytaofommgdgmncaa.Parts Go.Proofs.Ytaofommgdgmncaa.Names
attribute [local go_sem] Oper.semAt_some

/-! ### what Parse tells -/
/-- The trace of the words of a line: none where a word is no name. -/
def traceB (ws : List ByteArray) : Option (List ByteArray) := if ws.map (·.toList) = [[45]] then some [] else if ws.all nameB then some ws else none
theorem trace_l0 (l : List ByteArray) (hl : l.length ≤ 1099511627777) : ∀ (d k i : Nat), i ≤ l.length → l.length - i = d → d < k → eventlog_trace.l0 k l l (l.length : Int) (i : Int) = some (if (l.drop i).all nameB then (l, true) else ([], false)) := by
  intro d
  induction d with
  | zero =>
    intro k i hi hd hk
    obtain ⟨k, rfl⟩ : ∃ m, k = m + 1 := ⟨k - 1, by omega⟩
    simp only [eventlog_trace.l0]
    rw [if_neg (by omega), List.drop_of_length_le (by omega)]
    rfl
  | succ d ih =>
    intro k i hi hd hk
    obtain ⟨k, rfl⟩ : ∃ m, k = m + 1 := ⟨k - 1, by omega⟩
    have hlt : i < l.length := by omega
    have hw : wrap64 ((i : Int) + 1) = ((i + 1 : Nat) : Int) := by unfold wrap64; omega
    have hrd : rdOf ByteArray.empty l (i : Int) = l[i] := by simp [rdOf, hlt]
    simp only [eventlog_trace.l0]
    rw [if_pos (by omega), if_pos (by omega), if_pos (by omega), hrd, hw, ih k (i + 1) (by omega) (by omega) (by omega), List.drop_eq_getElem_cons hlt, List.all_cons]
    simp only [eventlog_Name.f, Option.bind_some]
    cases hn : nameB l[i] <;> simp
theorem trace_f (l : List ByteArray) (hl : l.length ≤ 1099511627777) : eventlog_trace.f (l.length + 2) l = some ((traceB l).getD [], (traceB l).isSome) := by
  have h0 := trace_l0 l hl l.length (l.length + 1) 0 (by omega) (by omega) (by omega)
  rw [List.drop_zero] at h0
  unfold eventlog_trace.f traceB
  by_cases h1 : (l.length : Int) = 1
  · rw [if_pos h1, if_pos (by omega)]
    obtain ⟨x, rfl⟩ : ∃ x, l = [x] := by
      cases l with
      | nil => simp at h1
      | cons x t => cases t with
        | nil => exact ⟨x, rfl⟩
        | cons y t => simp at h1; omega
    have hr : rdOf ByteArray.empty [x] 0 = x := rfl
    rw [hr]
    by_cases hx : x.toList = [45]
    · rw [if_pos (by simp [hx])]
      simp [eventlog_trace.j0, hx]
    · rw [if_neg (by simpa using hx)]
      have : (x.toList == ([45] : List UInt8)) = false := by simpa using hx
      rw [this]
      simp only [eventlog_trace.j0]
      rw [if_neg (by decide)]
      rw [show (0 : Int) = ((0 : Nat) : Int) from rfl, h0]
      cases hn : [x].all nameB <;> simp
  · rw [if_neg h1, if_neg (fun h => h1 (by have := congrArg List.length h; simp at this; omega))]
    simp only [eventlog_trace.j0]
    rw [if_neg (by decide)]
    rw [show (0 : Int) = ((0 : Nat) : Int) from rfl, h0]
    cases hn : l.all nameB <;> simp

/-- One line more: what the log is then, or the error. -/
def stepP (out : List (List ByteArray)) (line : ByteArray) : List (List ByteArray) ⊕ Int :=
  if wordsOf line = [] then .inl out
  else match traceB (wordsOf line) with
    | none => .inr 11
    | some t => if t.length > 64 ∨ out.length = 64 then .inr 2 else .inl (out ++ [t])
/-- The log of the lines so far, if none has an error. -/
def stP (pre : List ByteArray) : Option (List (List ByteArray)) := pre.foldl (fun o line => o.bind fun out => match stepP out line with | .inl o' => some o' | .inr _ => none) (some [])
theorem stP_snoc (pre : List ByteArray) (x : ByteArray) : stP (pre ++ [x]) = (stP pre).bind fun out => match stepP out x with | .inl o' => some o' | .inr _ => none := by unfold stP; rw [List.foldl_append]; rfl
def parseGo : List ByteArray → List (List ByteArray) → Nat → List (List ByteArray) × Int × Int
  | [], out, _ => (out, 0, 0)
  | x :: xs, out, at_ => match stepP out x with
    | .inl o' => parseGo xs o' (at_ + 1)
    | .inr e => ([], e, ((at_ + 1 : Nat) : Int))
def parseB (s : ByteArray) : List (List ByteArray) × Int × Int := parseGo (partsOf s 10) [] 0
def foldP (o : Option (List (List ByteArray))) (line : ByteArray) : Option (List (List ByteArray)) := o.bind fun out => match stepP out line with | .inl o' => some o' | .inr _ => none
theorem foldP_none : ∀ (pre : List ByteArray), pre.foldl foldP none = none
  | [] => rfl
  | _ :: pre => foldP_none pre
theorem parseGo_pre' : ∀ (pre : List ByteArray) (o : List (List ByteArray)) (k : Nat) {out : List (List ByteArray)}, pre.foldl foldP (some o) = some out → ∀ rest, parseGo (pre ++ rest) o k = parseGo rest out (k + pre.length) := by
  intro pre
  induction pre with
  | nil => intro o k out h rest; cases h; rfl
  | cons x pre ih =>
    intro o k out h rest
    rw [List.foldl_cons] at h
    show parseGo (x :: (pre ++ rest)) o k = _
    rw [parseGo]
    cases hs : stepP o x with
    | inl o' =>
      have : foldP (some o) x = some o' := by simp [foldP, hs]
      rw [this] at h
      show parseGo (pre ++ rest) o' (k + 1) = _
      rw [ih o' (k + 1) h rest, List.length_cons]
      congr 1; omega
    | inr e =>
      have : foldP (some o) x = none := by simp [foldP, hs]
      rw [this, foldP_none] at h
      cases h
theorem parseGo_pre (pre : List ByteArray) {out : List (List ByteArray)} (h : stP pre = some out) (rest : List ByteArray) : parseGo (pre ++ rest) [] 0 = parseGo rest out pre.length := by
  rw [parseGo_pre' pre [] 0 h rest, Nat.zero_add]
def eventlog_Parse.f (a0 : ByteArray) : Option ((List (List ByteArray)) × Int × Int) := if (a0.size : Int) > 65536 then some ([], 2, 0) else some (parseB a0)

/-- Between two rounds. -/
def ParseI (w : World) (s : ByteArray) (pre : List (Part s)) (W : World) : Prop :=
  ((∃ out v, (stP (pre.map Part.val) = some out ∧ out.length ≤ pre.length) ∧ Boxed W (w.heap.size + 1 + 1) 23 v ∧ Kd.S (Kd.slice 9 Kd.string) 34 W (w.heap.size + 1 + 1 + 1 + 1 + 1 + 1) (fun _ => True) v out) ∧
  Boxed W (w.heap.size + 1 + 1 + 1) 3 (.int .i64 (pre.length : Int)) ∧ Boxed W w.heap.size 23 (.slice none 0 0) ∧ Blk W (w.heap.size + 1) 26 [.int .i64 0, .int .i64 0] ∧
  (Boxed W (w.heap.size + 1 + 1 + 1 + 1) 9 (.string s) ∧ Boxed W (w.heap.size + 1 + 1 + 1 + 1 + 1) 5 (.int .u8 10))) ∧ Below w.heap.size w W
/-- A round has left: the error is written. -/
def ParseX (w : World) (s : ByteArray) (c : Code) (pre : List (Part s)) (W : World) : Prop :=
  (∃ q x out e, (c = .ret ∧ pre = q ++ [x] ∧ stP (q.map Part.val) = some out ∧ stepP out x.val = .inr e) ∧ Boxed W w.heap.size 23 (.slice none 0 0) ∧ Blk W (w.heap.size + 1) 26 [.int .i64 e, .int .i64 (((q.length + 1 : Nat)) : Int)]) ∧ Below w.heap.size w W
theorem parseI_own (w : World) (s : ByteArray) (B : Nat) (hB : w.heap.size ≤ B) : OwnFrom B (ParseI w s) :=
  OwnFrom.and (Own.from (Own.and' (Own.ex fun out => Own.ex fun v => Own.and' (Own.pure fun pre : List (Part s) => stP (pre.map Part.val) = some out ∧ out.length ≤ pre.length) (Own.and' (boxed_own _ _ fun _ => v) (S_own _ _ _ _ (fun _ => v) fun _ => out)))
    (Own.and' (boxed_own _ _ fun pre : List (Part s) => .int .i64 (pre.length : Int)) (Own.and' (boxed_own _ _ fun _ => _) (Own.and' (blk_own _ _ fun _ => _) (Own.and' (boxed_own _ _ fun _ => _) (boxed_own _ _ fun _ => _)))))) _) (ownFrom_below (Nat.le_refl _) hB)
theorem parseX_own (w : World) (s : ByteArray) (B : Nat) (hB : w.heap.size ≤ B) (c : Code) : OwnFrom B (ParseX w s c) :=
  OwnFrom.and (Own.from (Own.ex fun q => Own.ex fun x => Own.ex fun out => Own.ex fun e => Own.and' (Own.pure fun pre : List (Part s) => c = .ret ∧ pre = q ++ [x] ∧ stP (q.map Part.val) = some out ∧ stepP out x.val = .inr e) (Own.and' (boxed_own _ _ fun _ => _) (blk_own _ _ fun _ => _))) _) (ownFrom_below (Nat.le_refl _) hB)
theorem words_len (s : ByteArray) : (wordsOf s).length ≤ s.size + 1 := Nat.le_trans (wordsIn_len _) (pf_len s 32 (s.size + 1))

set_option maxRecDepth 100000 in
set_option maxHeartbeats 4000000 in
theorem eventlog_Parse.in_ (n : Nat) (hn : 4 ≤ n) (s : ByteArray) (hs : s.size ≤ 65536) (w : World) :
    CallsIn Fence.wide n Try.prog 10 #[.string s] w fun e W' => ∃ v0_ : Value, e = .returned (.tuple #[v0_, .agg #[.int .i64 (parseB s).2.1, .int .i64 (parseB s).2.2]]) ∧ Kd.S (Kd.slice 9 Kd.string) 34 W' w.heap.size (fun _ => True) v0_ (parseB s).1 ∧ Below w.heap.size w W' := by
  have h1 : 1 ≤ n := by omega
  have g1 : ¬ (65536 : Int) < (s.size : Int) := by omega
  refine callsIn_of_wp_marks Try.func10 rfl trivial ?_ rfl
  simp only [Try.ntmps10, List.size_toArray, List.length_cons, List.length_nil, Nat.reduceAdd, Nat.reduceSub, Array.replicate_succ, Array.replicate_zero, List.push_toArray, List.append_toArray, List.nil_append, List.cons_append]
  gi_wp2_with (refine ⟨trivial, ?_⟩; gi_at_call 34; refine (parts_in Fence.wide (n - 1) trivial rfl _ _ _).mono ?_; rintro e w' ⟨rfl, rfl⟩)
  have bN := Boxed.new ((((w.alloc (.cells #[.slice none 0 0] 23)).alloc (.cells #[.int .i64 0, .int .i64 0] 26)).alloc (.cells #[.slice none 0 0] 23)).alloc (.cells #[.int .i64 0] 3)) 9 (.string s)
  have bM := Boxed.new (((((w.alloc (.cells #[.slice none 0 0] 23)).alloc (.cells #[.int .i64 0, .int .i64 0] 26)).alloc (.cells #[.slice none 0 0] 23)).alloc (.cells #[.int .i64 0] 3)).alloc (.cells #[.string s] 9)) 5 (.int .u8 10)
  have bR := Boxed.new w 23 (.slice none 0 0)
  have bO := Boxed.new ((w.alloc (.cells #[.slice none 0 0] 23)).alloc (.cells #[.int .i64 0, .int .i64 0] 26)) 23 (.slice none 0 0)
  have bA := Boxed.new (((w.alloc (.cells #[.slice none 0 0] 23)).alloc (.cells #[.int .i64 0, .int .i64 0] 26)).alloc (.cells #[.slice none 0 0] 23)) 3 (.int .i64 0)
  have bF : Blk ((w.alloc (.cells #[.slice none 0 0] 23)).alloc (.cells #[.int .i64 0, .int .i64 0] 26)) (w.heap.size + 1) 26 [.int .i64 0, .int .i64 0] := by
    have := World.alloc_heap_new (w.alloc (.cells #[.slice none 0 0] 23)) (.cells #[.int .i64 0, .int .i64 0] 26)
    rwa [World.size_alloc] at this
  rw [World.size_alloc, World.size_alloc] at bO
  rw [World.size_alloc, World.size_alloc, World.size_alloc] at bA
  rw [World.size_alloc, World.size_alloc, World.size_alloc, World.size_alloc] at bN
  rw [World.size_alloc, World.size_alloc, World.size_alloc, World.size_alloc, World.size_alloc] at bM
  have hB0 : Below w.heap.size w (((((((w.alloc (.cells #[.slice none 0 0] 23)).alloc (.cells #[.int .i64 0, .int .i64 0] 26)).alloc (.cells #[.slice none 0 0] 23)).alloc (.cells #[.int .i64 0] 3)).alloc (.cells #[.string s] 9)).alloc (.cells #[.int .u8 10] 5))) :=
    ((((((Below.refl _ w).alloc (Nat.le_refl _) _).alloc (by simp) _).alloc (by simp; omega) _).alloc (by simp; omega) _).alloc (by simp; omega) _).alloc (by simp; omega) _
  refine wpIn_rangeFunc_ownG (F := Fence.wide) (show Fence.wide.round = none from rfl) h1 (gf := 44) (lb := #[.pointer (some ⟨w.heap.size + 1 + 1 + 1 + 1, 0, none⟩), .pointer (some ⟨w.heap.size + 1 + 1 + 1 + 1 + 1, 0, none⟩)]) rfl trivial (enters_of Try.func44 (by kernel_rfl) rfl)
    (parts_stopsB (n - 1) (by omega) (w.heap.size + 1 + 1 + 1 + 1) (w.heap.size + 1 + 1 + 1 + 1 + 1) w.heap.size s 10 (by omega) _ (boxesOf_iff.2 ⟨bN.alloc _, bM⟩)) kpBs_t (kpBs_b (by simp; omega)) (Below.refl _ _) (by intro _; rfl)
    (ParseI w s) (ParseX w s) (parseI_own w s _ (by simp; omega)) (parseX_own w s _ (by simp; omega))
    ⟨⟨⟨[], _, ⟨rfl, Nat.le_refl _⟩, ((bO.alloc _).alloc _).alloc _, Kd.S_nil _ _ _ _ _⟩, (bA.alloc _).alloc _, ((((bR.alloc _).alloc _).alloc _).alloc _).alloc _, blk_alloc (blk_alloc (blk_alloc (blk_alloc bF _) _) _) _, bN.alloc _, bM⟩, hB0⟩
    (fun x => { tmps := #[.string s, undef, .pointer (some ⟨w.heap.size, 0, none⟩), .pointer (some ⟨w.heap.size + 1, 0, none⟩), .pointer (some ⟨w.heap.size + 1 + 1, 0, none⟩), .pointer (some ⟨w.heap.size + 1 + 1 + 1, 0, none⟩), .string x.val, undef, undef, undef, .string s, .int .i64 s.size, .bool false, undef, .string s, .func (.func 44) #[] #[.pointer (some ⟨w.heap.size + 1 + 1 + 1 + 1, 0, none⟩), .pointer (some ⟨w.heap.size + 1 + 1 + 1 + 1 + 1, 0, none⟩)], .string x.val, undef, undef, undef, undef, undef, undef, undef, undef, undef, undef, undef, undef, undef, undef, undef, undef, undef, undef, undef, undef, undef, undef, undef, undef, undef, undef, undef, undef, undef, undef, undef, undef], defers := [] }) ?assign ?body ?done ?stop
  case assign =>
    intro l x W K hK
    gi_wp2
    exact hK
  case body =>
    rintro l pre x W ⟨⟨⟨out, v, ⟨hst, hol⟩, hv, hS⟩, hat, hr2, hr3, hb1, hb2⟩, hB⟩ hlt
    have hc := hat.cell
    have hcf := hat.frozen
    have hwl := words_len x.val
    have hxl := x.le
    obtain ⟨A0, c0, rfl⟩ := Kd.S_slice hS
    have hltv := hv.lt
    gi_wp2
    obtain ⟨W1, hW1⟩ : ∃ W1, W.setCell ⟨w.heap.size + 1 + 1 + 1, 0, none⟩ (.int .i64 ((pre.length : Int) + 1)) = W1 := ⟨_, rfl⟩
    have hat1 : Boxed W1 (w.heap.size + 1 + 1 + 1) 3 (.int .i64 ((pre.length : Int) + 1)) := hW1 ▸ hat.set _
    have hv1 : Boxed W1 (w.heap.size + 1 + 1) 23 (.slice A0 out.length c0) := hW1 ▸ hv.other (by omega) _
    have hr21 : Boxed W1 w.heap.size 23 (.slice none 0 0) := hW1 ▸ hr2.other (by omega) _
    have hr31 : Blk W1 (w.heap.size + 1) 26 [.int .i64 0, .int .i64 0] := by
      rw [← hW1]
      exact (Below.heap_setCell W _ _ _ (by simp)).trans hr3
    have hb11 : Boxed W1 (w.heap.size + 1 + 1 + 1 + 1) 9 (.string s) := hW1 ▸ hb1.other (by omega) _
    have hb21 : Boxed W1 (w.heap.size + 1 + 1 + 1 + 1 + 1) 5 (.int .u8 10) := hW1 ▸ hb2.other (by omega) _
    have hS1 : Kd.S (Kd.slice 9 Kd.string) 34 W1 (w.heap.size + 1 + 1 + 1 + 1 + 1 + 1) (fun _ => True) (.slice A0 out.length c0) out := by
      rw [← hW1]
      exact Kd.S_mono (Kd.S_far (Kd.S_bound hS) (fun k hk => by have := hk.2.1; simp; omega) _) (fun _ _ => trivial)
    have hBW1 : Below w.heap.size w W1 := hW1 ▸ hB.setCell (p := ⟨w.heap.size + 1 + 1 + 1, 0, none⟩) (by simp; omega) _
    have hBWW : Below w.heap.size W W1 := hW1 ▸ (Below.refl _ W).setCell (p := ⟨w.heap.size + 1 + 1 + 1, 0, none⟩) (by simp; omega) _
    have hKW1 : KeepsOthers W W1 := hW1 ▸ KeepsOthers.setCell _ _ _
    have hsz1 : W1.heap.size = W.heap.size := by rw [← hW1]; simp
    have HHW := Aside0.mk hW1
    rw [hW1]
    clear hW1 hc hcf
    refine ⟨trivial, (fun h => by cases h), ((CallsIn.inRound l (callsIn_wide.2 (eventlog_words.calls x.val (wordsOf x.val) _ (by rw [eventlog_words.f, if_pos (by omega)]))))).mono ?_⟩
    rintro e W2 ⟨vw, rfl, hrow, hbW⟩
    obtain ⟨Aw, cw, rfl⟩ := Kd.R_slice hrow
    have HROW := Aside0.mk hrow
    clear hrow
    have HB2 := Aside0.mk hbW
    by_cases hw0 : wordsOf x.val = []
    · have hl0 : (((wordsOf x.val).length : Int) == 0) = true := by rw [hw0]; rfl
      gi_wp2
      have hat3 := boxed_later hat1 HB2.out
      have hb13 := boxed_later hb11 HB2.out
      have hb23 := boxed_later hb21 HB2.out
      have hBW3 : Below w.heap.size W1 W2 := HB2.out.mono hBW1.size
      exact ⟨(hKW1.trans (keeps_later HB2.out)).from _, ⟨hBWW.trans hBW3, fun _ => boxesOf_iff.2 ⟨hb13, hb23⟩⟩,
        ⟨⟨out, _, ⟨by rw [List.map_append, List.map_cons, List.map_nil, stP_snoc, hst, Option.bind_some, stepP, if_pos hw0], by simp; omega⟩, boxed_later hv1 HB2.out, Kd.S_below hS1 HB2.out⟩,
          by simpa using hat3, boxed_later hr21 HB2.out, blk_later hr31 HB2.out, hb13, hb23⟩, hBW1.trans hBW3⟩
    · have hlp : 0 < (wordsOf x.val).length := List.length_pos_iff.2 hw0
      have hl0 : (((wordsOf x.val).length : Int) == 0) = false := beq_eq_false_iff_ne.2 (by omega)
      gi_wp2
      refine ⟨trivial, (fun h => by cases h), ((CallsIn.inRound l (callsIn_wide.2 (eventlog_trace.calls _ (fun k => W1.heap.size ≤ k) _ (wordsOf x.val) _ _ W1 W2 HB2.out (Kd.R_mono (Kd.R_bound HROW.out) (fun k hk => hk.2.1)) (trace_f _ (by omega)))))).mono ?_⟩
      rintro e W3 ⟨vt, rfl, hrt, hbT, _⟩
      have hrt2 : Kd.R Kd.string 9 W3 W1.heap.size (fun k => W1.heap.size ≤ k) vt ((traceB (wordsOf x.val)).getD []) := Kd.R_mono hrt (fun k hk => by have := HB2.out.size; omega)
      clear hrt
      have hat3 := boxed_later hat1 hbT
      have hb13 := boxed_later hb11 hbT
      have hb23 := boxed_later hb21 hbT
      have hv3 := boxed_later hv1 hbT
      have hr23 := boxed_later hr21 hbT
      have hr33 := blk_later hr31 hbT
      have hS3 := Kd.S_mono (Kd.S_bound hS1) (ok' := fun k => k < W1.heap.size) (fun k hk => hk.2.2.1)
      have hS3 := Kd.S_below hS3 hbT
      have hBW3 : Below w.heap.size w W3 := hBW1.trans (hbT.mono hBW1.size)
      have hBWW3 : Below w.heap.size W W3 := hBWW.trans (hbT.mono hBW1.size)
      have hKW3 : KeepsOthers W W3 := hKW1.trans (keeps_later hbT)
      have hatc := hat3.cell
      have hatf := hat3.frozen
      have hr2c := hr23.cell
      have hr2f := hr23.frozen
      have hr3c0 : W3.cell? ⟨w.heap.size + 1, 0, none⟩ = some (.int .i64 0) := by simp [World.cell?, show W3.heap[w.heap.size + 1]? = _ from hr33]
      have hr3c1 : W3.cell? ⟨w.heap.size + 1, 1, none⟩ = some (.int .i64 0) := by simp [World.cell?, show W3.heap[w.heap.size + 1]? = _ from hr33]
      have hr3f0 : W3.frozen? ⟨w.heap.size + 1, 0, none⟩ = false := by simp [World.frozen?, show W3.heap[w.heap.size + 1]? = _ from hr33]
      have hr3f1 : W3.frozen? ⟨w.heap.size + 1, 1, none⟩ = false := by simp [World.frozen?, show W3.heap[w.heap.size + 1]? = _ from hr33]
      have HT := Aside0.mk hbT
      clear hbT
      cases htb : traceB (wordsOf x.val) with
      | none =>
        rw [htb] at hrt2
        have HTB := Aside0.mk htb
        clear htb
        gi_wp2
        refine wpIn_region_round (F := Fence.wide) (by kernel_rfl) (by kernel_rfl) ?_
        refine wpAnyIn_ready (rs := [0, 2]) (by kernel_rfl) (by simp) (AllReadyIn.cons rfl (fun K hK => ?_) (AllReadyIn.cons rfl (fun K hK => ?_) AllReadyIn.nil))
        · go_simp
          refine hK _ _ ?_
          clear hK K
          refine wpAnyIn_ready (rs := [1, 2]) (by kernel_rfl) (by simp) (AllReadyIn.cons rfl (fun K hK => ?_) (AllReadyIn.cons rfl (fun K hK => ?_) AllReadyIn.nil))
          · go_simp
            refine hK _ _ ?_
            clear hK K
            refine wpAnyIn_ready (rs := [2]) (by kernel_rfl) (by simp) (AllReadyIn.cons rfl (fun K hK => ?_) AllReadyIn.nil)
            · go_simp
              refine hK _ _ ?_
              clear hK K
              refine wpAnyIn_ready (rs := [3]) (by kernel_rfl) (by simp) (AllReadyIn.cons rfl (fun K hK => ?_) AllReadyIn.nil)
              · go_simp
                refine hK _ _ ?_
                clear hK K
                refine wpAnyIn_done (by kernel_rfl) ?_ _
                gi_wp2
                obtain ⟨x1, x2, x3, x4⟩ := err_world rfl hr23 hr33 (.slice none 0 0) (.int .i64 11) (.int .i64 ((pre.length : Int) + 1))
                exact ⟨(hKW3.trans x3).from _, ⟨pre, x, out, 11, ⟨rfl, rfl, hst, by rw [stepP, if_neg hw0, HTB.out]⟩, x1, by simpa using x2⟩, hBW3.trans x4⟩
          · go_simp
            refine hK _ _ ?_
            clear hK K
            refine wpAnyIn_ready (rs := [1]) (by kernel_rfl) (by simp) (AllReadyIn.cons rfl (fun K hK => ?_) AllReadyIn.nil)
            · go_simp
              refine hK _ _ ?_
              clear hK K
              refine wpAnyIn_ready (rs := [3]) (by kernel_rfl) (by simp) (AllReadyIn.cons rfl (fun K hK => ?_) AllReadyIn.nil)
              · go_simp
                refine hK _ _ ?_
                clear hK K
                refine wpAnyIn_done (by kernel_rfl) ?_ _
                gi_wp2
                obtain ⟨x1, x2, x3, x4⟩ := err_world rfl hr23 hr33 (.slice none 0 0) (.int .i64 11) (.int .i64 ((pre.length : Int) + 1))
                exact ⟨(hKW3.trans x3).from _, ⟨pre, x, out, 11, ⟨rfl, rfl, hst, by rw [stepP, if_neg hw0, HTB.out]⟩, x1, by simpa using x2⟩, hBW3.trans x4⟩
        · go_simp
          refine hK _ _ ?_
          clear hK K
          refine wpAnyIn_ready (rs := [0]) (by kernel_rfl) (by simp) (AllReadyIn.cons rfl (fun K hK => ?_) AllReadyIn.nil)
          · go_simp
            refine hK _ _ ?_
            clear hK K
            refine wpAnyIn_ready (rs := [1]) (by kernel_rfl) (by simp) (AllReadyIn.cons rfl (fun K hK => ?_) AllReadyIn.nil)
            · go_simp
              refine hK _ _ ?_
              clear hK K
              refine wpAnyIn_ready (rs := [3]) (by kernel_rfl) (by simp) (AllReadyIn.cons rfl (fun K hK => ?_) AllReadyIn.nil)
              · go_simp
                refine hK _ _ ?_
                clear hK K
                refine wpAnyIn_done (by kernel_rfl) ?_ _
                gi_wp2
                obtain ⟨x1, x2, x3, x4⟩ := err_world rfl hr23 hr33 (.slice none 0 0) (.int .i64 11) (.int .i64 ((pre.length : Int) + 1))
                exact ⟨(hKW3.trans x3).from _, ⟨pre, x, out, 11, ⟨rfl, rfl, hst, by rw [stepP, if_neg hw0, HTB.out]⟩, x1, by simpa using x2⟩, hBW3.trans x4⟩
      | some t =>
        rw [htb] at hrt2
        have HTB := Aside0.mk htb
        clear htb
        obtain ⟨At, ct, rfl⟩ := Kd.R_slice hrt2
        have HRT := Aside0.mk hrt2
        clear hrt2
        by_cases ht64 : 64 < t.length
        · gi_wp2
          refine wpIn_region_round (F := Fence.wide) (by kernel_rfl) (by kernel_rfl) ?_
          refine wpAnyIn_ready (rs := [0, 2]) (by kernel_rfl) (by simp) (AllReadyIn.cons rfl (fun K hK => ?_) (AllReadyIn.cons rfl (fun K hK => ?_) AllReadyIn.nil))
          · go_simp
            refine hK _ _ ?_
            clear hK K
            refine wpAnyIn_ready (rs := [1, 2]) (by kernel_rfl) (by simp) (AllReadyIn.cons rfl (fun K hK => ?_) (AllReadyIn.cons rfl (fun K hK => ?_) AllReadyIn.nil))
            · go_simp
              refine hK _ _ ?_
              clear hK K
              refine wpAnyIn_ready (rs := [2]) (by kernel_rfl) (by simp) (AllReadyIn.cons rfl (fun K hK => ?_) AllReadyIn.nil)
              · go_simp
                refine hK _ _ ?_
                clear hK K
                refine wpAnyIn_ready (rs := [3]) (by kernel_rfl) (by simp) (AllReadyIn.cons rfl (fun K hK => ?_) AllReadyIn.nil)
                · go_simp
                  refine hK _ _ ?_
                  clear hK K
                  refine wpAnyIn_done (by kernel_rfl) ?_ _
                  gi_wp2
                  obtain ⟨x1, x2, x3, x4⟩ := err_world rfl hr23 hr33 (.slice none 0 0) (.int .i64 2) (.int .i64 ((pre.length : Int) + 1))
                  exact ⟨(hKW3.trans x3).from _, ⟨pre, x, out, 2, ⟨rfl, rfl, hst, by rw [stepP, if_neg hw0, HTB.out]; exact if_pos (.inl ht64)⟩, x1, by simpa using x2⟩, hBW3.trans x4⟩
            · go_simp
              refine hK _ _ ?_
              clear hK K
              refine wpAnyIn_ready (rs := [1]) (by kernel_rfl) (by simp) (AllReadyIn.cons rfl (fun K hK => ?_) AllReadyIn.nil)
              · go_simp
                refine hK _ _ ?_
                clear hK K
                refine wpAnyIn_ready (rs := [3]) (by kernel_rfl) (by simp) (AllReadyIn.cons rfl (fun K hK => ?_) AllReadyIn.nil)
                · go_simp
                  refine hK _ _ ?_
                  clear hK K
                  refine wpAnyIn_done (by kernel_rfl) ?_ _
                  gi_wp2
                  obtain ⟨x1, x2, x3, x4⟩ := err_world rfl hr23 hr33 (.slice none 0 0) (.int .i64 2) (.int .i64 ((pre.length : Int) + 1))
                  exact ⟨(hKW3.trans x3).from _, ⟨pre, x, out, 2, ⟨rfl, rfl, hst, by rw [stepP, if_neg hw0, HTB.out]; exact if_pos (.inl ht64)⟩, x1, by simpa using x2⟩, hBW3.trans x4⟩
          · go_simp
            refine hK _ _ ?_
            clear hK K
            refine wpAnyIn_ready (rs := [0]) (by kernel_rfl) (by simp) (AllReadyIn.cons rfl (fun K hK => ?_) AllReadyIn.nil)
            · go_simp
              refine hK _ _ ?_
              clear hK K
              refine wpAnyIn_ready (rs := [1]) (by kernel_rfl) (by simp) (AllReadyIn.cons rfl (fun K hK => ?_) AllReadyIn.nil)
              · go_simp
                refine hK _ _ ?_
                clear hK K
                refine wpAnyIn_ready (rs := [3]) (by kernel_rfl) (by simp) (AllReadyIn.cons rfl (fun K hK => ?_) AllReadyIn.nil)
                · go_simp
                  refine hK _ _ ?_
                  clear hK K
                  refine wpAnyIn_done (by kernel_rfl) ?_ _
                  gi_wp2
                  obtain ⟨x1, x2, x3, x4⟩ := err_world rfl hr23 hr33 (.slice none 0 0) (.int .i64 2) (.int .i64 ((pre.length : Int) + 1))
                  exact ⟨(hKW3.trans x3).from _, ⟨pre, x, out, 2, ⟨rfl, rfl, hst, by rw [stepP, if_neg hw0, HTB.out]; exact if_pos (.inl ht64)⟩, x1, by simpa using x2⟩, hBW3.trans x4⟩
        · have hv3c := hv3.cell
          have hv3f := hv3.frozen
          by_cases ho64 : out.length = 64
          · have ho : ((out.length : Int) == 64) = true := by rw [ho64]; rfl
            gi_wp2
            refine wpIn_region_round (F := Fence.wide) (by kernel_rfl) (by kernel_rfl) ?_
            refine wpAnyIn_ready (rs := [0, 2]) (by kernel_rfl) (by simp) (AllReadyIn.cons rfl (fun K hK => ?_) (AllReadyIn.cons rfl (fun K hK => ?_) AllReadyIn.nil))
            · go_simp
              refine hK _ _ ?_
              clear hK K
              refine wpAnyIn_ready (rs := [1, 2]) (by kernel_rfl) (by simp) (AllReadyIn.cons rfl (fun K hK => ?_) (AllReadyIn.cons rfl (fun K hK => ?_) AllReadyIn.nil))
              · go_simp
                refine hK _ _ ?_
                clear hK K
                refine wpAnyIn_ready (rs := [2]) (by kernel_rfl) (by simp) (AllReadyIn.cons rfl (fun K hK => ?_) AllReadyIn.nil)
                · go_simp
                  refine hK _ _ ?_
                  clear hK K
                  refine wpAnyIn_ready (rs := [3]) (by kernel_rfl) (by simp) (AllReadyIn.cons rfl (fun K hK => ?_) AllReadyIn.nil)
                  · go_simp
                    refine hK _ _ ?_
                    clear hK K
                    refine wpAnyIn_done (by kernel_rfl) ?_ _
                    gi_wp2
                    obtain ⟨x1, x2, x3, x4⟩ := err_world rfl hr23 hr33 (.slice none 0 0) (.int .i64 2) (.int .i64 ((pre.length : Int) + 1))
                    exact ⟨(hKW3.trans x3).from _, ⟨pre, x, out, 2, ⟨rfl, rfl, hst, by rw [stepP, if_neg hw0, HTB.out]; exact if_pos (.inr ho64)⟩, x1, by simpa using x2⟩, hBW3.trans x4⟩
              · go_simp
                refine hK _ _ ?_
                clear hK K
                refine wpAnyIn_ready (rs := [1]) (by kernel_rfl) (by simp) (AllReadyIn.cons rfl (fun K hK => ?_) AllReadyIn.nil)
                · go_simp
                  refine hK _ _ ?_
                  clear hK K
                  refine wpAnyIn_ready (rs := [3]) (by kernel_rfl) (by simp) (AllReadyIn.cons rfl (fun K hK => ?_) AllReadyIn.nil)
                  · go_simp
                    refine hK _ _ ?_
                    clear hK K
                    refine wpAnyIn_done (by kernel_rfl) ?_ _
                    gi_wp2
                    obtain ⟨x1, x2, x3, x4⟩ := err_world rfl hr23 hr33 (.slice none 0 0) (.int .i64 2) (.int .i64 ((pre.length : Int) + 1))
                    exact ⟨(hKW3.trans x3).from _, ⟨pre, x, out, 2, ⟨rfl, rfl, hst, by rw [stepP, if_neg hw0, HTB.out]; exact if_pos (.inr ho64)⟩, x1, by simpa using x2⟩, hBW3.trans x4⟩
            · go_simp
              refine hK _ _ ?_
              clear hK K
              refine wpAnyIn_ready (rs := [0]) (by kernel_rfl) (by simp) (AllReadyIn.cons rfl (fun K hK => ?_) AllReadyIn.nil)
              · go_simp
                refine hK _ _ ?_
                clear hK K
                refine wpAnyIn_ready (rs := [1]) (by kernel_rfl) (by simp) (AllReadyIn.cons rfl (fun K hK => ?_) AllReadyIn.nil)
                · go_simp
                  refine hK _ _ ?_
                  clear hK K
                  refine wpAnyIn_ready (rs := [3]) (by kernel_rfl) (by simp) (AllReadyIn.cons rfl (fun K hK => ?_) AllReadyIn.nil)
                  · go_simp
                    refine hK _ _ ?_
                    clear hK K
                    refine wpAnyIn_done (by kernel_rfl) ?_ _
                    gi_wp2
                    obtain ⟨x1, x2, x3, x4⟩ := err_world rfl hr23 hr33 (.slice none 0 0) (.int .i64 2) (.int .i64 ((pre.length : Int) + 1))
                    exact ⟨(hKW3.trans x3).from _, ⟨pre, x, out, 2, ⟨rfl, rfl, hst, by rw [stepP, if_neg hw0, HTB.out]; exact if_pos (.inr ho64)⟩, x1, by simpa using x2⟩, hBW3.trans x4⟩
          · have ho : ((out.length : Int) == 64) = false := beq_eq_false_iff_ne.2 (by omega)
            have hpre : pre.length < s.size + 1 := hlt
            have hne3 : ∀ k, (.slice A0 out.length c0 : Value).ownBlock = some k → k < W1.heap.size ∧ w.heap.size + 1 + 1 + 1 + 1 + 1 + 1 ≤ k := fun k hk => ⟨(Kd.S_R hS3).1 k hk, Kd.S_base hS3 k hk⟩
            have hbase : w.heap.size + 1 + 1 + 1 + 1 + 1 + 1 ≤ W1.heap.size := by have := hb21.lt; omega
            have hW13 := HT.out.size
            have HNE := Aside0.mk hne3
            have HS3 := Aside0.mk hS3
            clear hne3 hS3
            gi_wp2_with (gi_at_builtin; refine S_appendIn (Kd.slice 9 Kd.string) (w.heap.size + 1 + 1 + 1 + 1 + 1 + 1) rfl (.tmp 43) (.tmp 45) 23 34 (.slice none 0 0) 24 rfl Try.underlying23 info34 rfl (by decide) (by omega) (.slice A0 out.length c0) out t [.slice At t.length ct] (fun _ => True) (fun k => W1.heap.size ≤ k) rfl rfl ⟨_, rfl, Kd.R_lower HRT.out hbase⟩ (fun k hk => ⟨trivial, fun e => by have := (HNE.out k e.symm).1; omega⟩) (fun _ _ => trivial) (Kd.S_mono HS3.out (fun k hk => ⟨trivial, by omega⟩)) (by omega) (by omega) ?_; rintro v1 w1 hS4 hg4 ⟨g4, cap4, rfl⟩; obtain ⟨hk4, hb4⟩ := S_keeps HS3.out (by omega) hg4; have hv4 : Boxed w1 (w.heap.size + 1 + 1) 23 (.slice A0 out.length c0) := (hb4.block _ (by omega)).trans hv3; have hv4c := hv4.cell; have hv4f := hv4.frozen; have HS4 := Aside0.mk hS4; clear hS4; have HK4 := Aside0.mk hk4; have HB4 := Aside0.mk hb4; clear hk4 hb4 hg4)
            have hb14 : Boxed w1 (w.heap.size + 1 + 1 + 1 + 1) 9 (.string s) := (HB4.out.block _ (by omega)).trans hb13
            have hb24 : Boxed w1 (w.heap.size + 1 + 1 + 1 + 1 + 1) 5 (.int .u8 10) := (HB4.out.block _ (by omega)).trans hb23
            have hat4 : Boxed w1 (w.heap.size + 1 + 1 + 1) 3 (.int .i64 ((pre.length : Int) + 1)) := (HB4.out.block _ (by omega)).trans hat3
            have hr24 : Boxed w1 w.heap.size 23 (.slice none 0 0) := (HB4.out.block _ (by omega)).trans hr23
            have hr34 : Blk w1 (w.heap.size + 1) 26 [.int .i64 0, .int .i64 0] := (HB4.out.block _ (by omega)).trans hr33
            have hb15 := hb14.other (B' := w.heap.size + 1 + 1) (by omega) (.slice (some ⟨g4, 0, none⟩) (out.length + 1) cap4)
            have hb25 := hb24.other (B' := w.heap.size + 1 + 1) (by omega) (.slice (some ⟨g4, 0, none⟩) (out.length + 1) cap4)
            have hat5 := hat4.other (B' := w.heap.size + 1 + 1) (by omega) (.slice (some ⟨g4, 0, none⟩) (out.length + 1) cap4)
            have hr25 := hr24.other (B' := w.heap.size + 1 + 1) (by omega) (.slice (some ⟨g4, 0, none⟩) (out.length + 1) cap4)
            have hr35 := blk_other (p := ⟨w.heap.size + 1 + 1, 0, none⟩) hr34 (by simp) (.slice (some ⟨g4, 0, none⟩) (out.length + 1) cap4)
            have hB5 : Below w.heap.size W3 (w1.setCell ⟨w.heap.size + 1 + 1, 0, none⟩ (.slice (some ⟨g4, 0, none⟩) (out.length + 1) cap4)) := (HB4.out.mono (by omega)).setCell (p := ⟨w.heap.size + 1 + 1, 0, none⟩) (by simp; omega) _
            have hstep : stepP out x.val = .inl (out ++ [t]) := by rw [stepP, if_neg hw0, HTB.out]; exact if_neg (by omega)
            refine ⟨((hKW3.trans HK4.out).trans (KeepsOthers.setCell _ _ _)).from _, ⟨hBWW3.trans hB5, fun _ => boxesOf_iff.2 ⟨hb15, hb25⟩⟩,
              ⟨⟨out ++ [t], _, ⟨by rw [List.map_append, List.map_cons, List.map_nil, stP_snoc, hst, Option.bind_some, hstep], by simp; omega⟩, hv4.set _, ?_⟩, by simpa using hat5, hr25, hr35, hb15, hb25⟩, hBW3.trans hB5⟩
            exact Kd.S_mono (Kd.S_far (Kd.S_bound HS4.out) (fun k hk => by have := hk.2.1; simp; omega) _) (fun _ _ => trivial)
  case done =>
    rintro D ys W hD hys ⟨⟨⟨out, v, ⟨hst, hol⟩, hv, hS⟩, hat, hr2, hr3, hb1, hb2⟩, hB⟩ hK
    obtain ⟨A0, c0, rfl⟩ := Kd.S_slice hS
    have hc := hv.cell
    have hr2c := hr2.cell
    have hr2f := hr2.frozen
    have hr3c0 : W.cell? ⟨w.heap.size + 1, 0, none⟩ = some (.int .i64 0) := by simp [World.cell?, show W.heap[w.heap.size + 1]? = _ from hr3]
    have hr3c1 : W.cell? ⟨w.heap.size + 1, 1, none⟩ = some (.int .i64 0) := by simp [World.cell?, show W.heap[w.heap.size + 1]? = _ from hr3]
    have hr3f0 : W.frozen? ⟨w.heap.size + 1, 0, none⟩ = false := by simp [World.frozen?, show W.heap[w.heap.size + 1]? = _ from hr3]
    have hr3f1 : W.frozen? ⟨w.heap.size + 1, 1, none⟩ = false := by simp [World.frozen?, show W.heap[w.heap.size + 1]? = _ from hr3]
    gi_wp2
    have hlb := hb2.lt
    have hD' : w.heap.size + 1 + 1 + 1 + 1 + 1 + 1 ≤ D := by simp at hD; omega
    obtain ⟨x1, x2, x3, x4⟩ := err_world rfl hr2 hr3 (.slice A0 out.length c0) (.int .i64 0) (.int .i64 0)
    have y1 : Boxed (((W.setCell ⟨w.heap.size, 0, none⟩ (.slice A0 out.length c0)).setCell ⟨w.heap.size + 1, 0, none⟩ (.int .i64 0)).setCell ⟨w.heap.size + 1, 1, none⟩ (.int .i64 0)) w.heap.size 23 (.slice A0 out.length c0) := x1
    have y2 : Blk (((W.setCell ⟨w.heap.size, 0, none⟩ (.slice A0 out.length c0)).setCell ⟨w.heap.size + 1, 0, none⟩ (.int .i64 0)).setCell ⟨w.heap.size + 1, 1, none⟩ (.int .i64 0)) (w.heap.size + 1) 26 [.int .i64 0, .int .i64 0] := x2
    have y4 : Below w.heap.size W (((W.setCell ⟨w.heap.size, 0, none⟩ (.slice A0 out.length c0)).setCell ⟨w.heap.size + 1, 0, none⟩ (.int .i64 0)).setCell ⟨w.heap.size + 1, 1, none⟩ (.int .i64 0)) := (((Below.refl _ W).setCell (p := ⟨w.heap.size, 0, none⟩) (by simp) _).setCell (p := ⟨w.heap.size + 1, 0, none⟩) (by simp) _).setCell (p := ⟨w.heap.size + 1, 1, none⟩) (by simp) _
    have yS : Kd.S (Kd.slice 9 Kd.string) 34 (((W.setCell ⟨w.heap.size, 0, none⟩ (.slice A0 out.length c0)).setCell ⟨w.heap.size + 1, 0, none⟩ (.int .i64 0)).setCell ⟨w.heap.size + 1, 1, none⟩ (.int .i64 0)) (w.heap.size + 1 + 1 + 1 + 1 + 1 + 1) (fun k => w.heap.size + 1 + 1 + 1 + 1 + 1 + 1 ≤ k) (.slice A0 out.length c0) out := by
      refine Kd.S_far (Kd.S_far (Kd.S_far (Kd.S_mono (Kd.S_bound hS) (fun k hk => hk.2.1)) (fun k hk => ?_) _) (fun k hk => ?_) _) (fun k hk => ?_) _ <;> (simp; omega)
    obtain ⟨X, hX⟩ : ∃ X, (((W.setCell ⟨w.heap.size, 0, none⟩ (.slice A0 out.length c0)).setCell ⟨w.heap.size + 1, 0, none⟩ (.int .i64 0)).setCell ⟨w.heap.size + 1, 1, none⟩ (.int .i64 0)) = X := ⟨_, rfl⟩
    have hKX : X.heap[D]? = some (.deferred (some [])) := by
      rw [← hX, Below.heap_setCell _ _ _ _ (by simp; omega), Below.heap_setCell _ _ _ _ (by simp; omega), Below.heap_setCell _ _ _ _ (by simp; omega)]
      exact hK
    rw [hX] at y1 y2 y4 yS ⊢
    refine ⟨by simp, .inl ⟨_, _, rfl, run_takeDeferred hKX, ?_⟩⟩
    have hne : ∀ k, k < w.heap.size + 1 + 1 + 1 + 1 + 1 + 1 → some k ≠ some D := fun k hk e => by cases e; omega
    have z1 := y1.kept (grownBy_putObj' X D (.deferred none)) (hne _ (by omega))
    have z2 : Blk (X.putObj D (.deferred none)) (w.heap.size + 1) 26 [.int .i64 0, .int .i64 0] := ((grownBy_putObj' X D (.deferred none)).block _ (Array.getElem?_eq_some_iff.1 y2).1 (hne _ (by omega))).trans y2
    have hpar : parseB s = (out, 0, 0) := by
      unfold parseB
      rw [← hys, ← List.append_nil (ys.map Part.val), parseGo_pre _ hst]
      rfl
    refine ⟨_, results_bc rfl _ _ _ _ _ _ _ _ _ _ rfl z1 Try.underlying23 rfl rfl z2 Try.underlying26 rfl (by kernel_rfl), _, by rw [hpar], ?_, ?_⟩
    · rw [hpar]
      exact S_putObj _ yS hKX rfl (by omega)
    · exact (hB.trans y4).trans (belowK_b (w := w) (Nat.le_refl _) X D _ _ (by omega) hKX rfl rfl)
  case stop =>
    rintro D c pre W hD hpre ⟨⟨q, x, out, e, ⟨rfl, hq, hst, hse⟩, hr2, hr3⟩, hB⟩ hK
    gi_wp2
    have hD' : w.heap.size + 1 + 1 + 1 + 1 + 1 + 1 ≤ D := by simp at hD; omega
    refine ⟨by simp, .inl ⟨_, _, rfl, run_takeDeferred hK, ?_⟩⟩
    have hne : ∀ k, k < w.heap.size + 1 + 1 + 1 + 1 + 1 + 1 → some k ≠ some D := fun k hk e => by cases e; omega
    have z1 := hr2.kept (grownBy_putObj' W D (.deferred none)) (hne _ (by omega))
    have z2 : Blk (W.putObj D (.deferred none)) (w.heap.size + 1) 26 [.int .i64 e, .int .i64 ((q.length + 1 : Nat) : Int)] := ((grownBy_putObj' W D (.deferred none)).block _ (Array.getElem?_eq_some_iff.1 hr3).1 (hne _ (by omega))).trans hr3
    have hpar : parseB s = ([], e, ((q.length + 1 : Nat) : Int)) := by
      obtain ⟨k, hk1, hk2, hk3⟩ := hpre
      obtain ⟨r, hr⟩ := parts_prefix (b := 10) hk1
      unfold parseB
      rw [hr, ← hk3, hq, List.map_append, List.append_assoc, parseGo_pre _ hst]
      show parseGo (x.val :: r) out _ = _
      rw [parseGo, hse, List.length_map]
    refine ⟨_, results_bc rfl _ _ _ _ _ _ _ _ _ _ rfl z1 Try.underlying23 rfl rfl z2 Try.underlying26 rfl (by kernel_rfl), _, by rw [hpar], ?_, ?_⟩
    · rw [hpar]
      exact Kd.S_nil _ _ _ _ _
    · exact hB.trans (belowK_b (w := w) (Nat.le_refl _) W D _ _ (by omega) hK rfl rfl)

set_option maxRecDepth 100000 in
set_option maxHeartbeats 4000000 in
theorem eventlog_Parse.big (n : Nat) (s : ByteArray) (hs : (s.size : Int) > 65536) (w : World) :
    CallsIn Fence.wide n Try.prog 10 #[.string s] w fun e W' => ∃ v0_ : Value, e = .returned (.tuple #[v0_, .agg #[.int .i64 2, .int .i64 0]]) ∧ Kd.S (Kd.slice 9 Kd.string) 34 W' w.heap.size (fun _ => True) v0_ ([] : List (List ByteArray)) ∧ Below w.heap.size w W' := by
  have g1 : decide ((65536 : Int) < (s.size : Int)) = true := decide_eq_true hs
  refine callsIn_of_wp_marks Try.func10 rfl trivial ?_ rfl
  simp only [Try.ntmps10, List.size_toArray, List.length_cons, List.length_nil, Nat.reduceAdd, Nat.reduceSub, Array.replicate_succ, Array.replicate_zero, List.push_toArray, List.append_toArray, List.nil_append, List.cons_append]
  gi_wp2
  have z1 := (Boxed.new w 23 (.slice none 0 0)).alloc (.cells #[.int .i64 2, .int .i64 0] 26)
  have z2 := World.alloc_heap_new (w.alloc (.cells #[.slice none 0 0] 23)) (.cells #[.int .i64 2, .int .i64 0] 26)
  rw [World.size_alloc] at z2
  exact ⟨_, results_bc rfl _ _ _ _ _ _ _ _ _ _ rfl z1 Try.underlying23 rfl rfl z2 Try.underlying26 rfl (by kernel_rfl), _, rfl, Kd.S_nil _ _ _ _ _, ((Below.refl _ w).alloc (Nat.le_refl _) _).alloc (by simp) _⟩

theorem eventlog_Parse.calls (a0 : ByteArray) (r1 : List (List ByteArray)) (r2 r3 : Int) (w : World) (h : eventlog_Parse.f a0 = some (r1, r2, r3)) :
    Calls Try.prog 10 #[.string a0] w fun e w' => ∃ v0_ : Value, e = .returned (.tuple #[v0_, .agg #[.int .i64 r2, .int .i64 r3]]) ∧ Kd.S (Kd.slice 9 Kd.string) 34 w' w.heap.size (fun _ => True) v0_ r1 ∧ Below w.heap.size w w' := by
  unfold eventlog_Parse.f at h
  split at h
  · rename_i hs
    simp only [Option.some.injEq, Prod.mk.injEq] at h
    obtain ⟨rfl, rfl, rfl⟩ := h
    exact (callsIn_wide (n := 4)).1 (eventlog_Parse.big 4 a0 hs w)
  · rename_i hs
    have h := Option.some.inj h
    refine (callsIn_wide (n := 4)).1 ((eventlog_Parse.in_ 4 (by omega) a0 (by omega) w).mono ?_)
    rw [h]
    rintro e W' ⟨v, rfl, hr, hb⟩
    exact ⟨v, rfl, hr, hb⟩


end



/-! ### eventlog_Follows: function 14 -/
mutual
def eventlog_Follows.l0 : Nat → ByteArray → ByteArray → Int → List (List ByteArray) → Int → Int → Option (Int)
 | 0, _, _, _, _, _, _ => none
 | k + 1, x1, x2, x7, x11, x12, x13 => if x13 < x12 then (if 0 ≤ x13 then (if x13 < (x11.length : Int) then (eventlog_Follows.l1 k x1 x2 x7 (rd_L1 x11 x13) 1 x11 x12 x13) else (none)) else (none)) else (some x7)
def eventlog_Follows.l1 : Nat → ByteArray → ByteArray → Int → List ByteArray → Int → List (List ByteArray) → Int → Int → Option (Int)
 | 0, _, _, _, _, _, _, _, _ => none
 | k + 1, x1, x2, x7, x9, x10, x11, x12, x13 => if x10 < (x9.length : Int) then (if 0 ≤ (wrap64 (x10 - 1)) then (if (wrap64 (x10 - 1)) < (x9.length : Int) then (if (rdOf ByteArray.empty x9 (wrap64 (x10 - 1))).toList = x1.toList then (if 0 ≤ x10 then (if (rdOf ByteArray.empty x9 x10).toList = x2.toList then (eventlog_Follows.l1 k x1 x2 (wrap64 (x7 + 1)) x9 (wrap64 (x10 + 1)) x11 x12 x13) else (eventlog_Follows.l1 k x1 x2 x7 x9 (wrap64 (x10 + 1)) x11 x12 x13)) else (none)) else (eventlog_Follows.l1 k x1 x2 x7 x9 (wrap64 (x10 + 1)) x11 x12 x13)) else (none)) else (none)) else (eventlog_Follows.l0 k x1 x2 x7 x11 x12 (wrap64 (x13 + 1)))
end
def eventlog_Follows.f (k : Nat) (l0 : List (List ByteArray)) (a1 : ByteArray) (a2 : ByteArray) : Option (Int) := eventlog_Follows.l0 k a1 a2 0 l0 (l0.length : Int) 0
theorem eventlog_Follows.mono_l : ∀ k, (∀ y0 y1 y2 y3 y4 y5, LeO (eventlog_Follows.l0 k y0 y1 y2 y3 y4 y5) (eventlog_Follows.l0 (k + 1) y0 y1 y2 y3 y4 y5)) ∧ (∀ y0 y1 y2 y3 y4 y5 y6 y7, LeO (eventlog_Follows.l1 k y0 y1 y2 y3 y4 y5 y6 y7) (eventlog_Follows.l1 (k + 1) y0 y1 y2 y3 y4 y5 y6 y7))
 | 0 => ⟨fun _ _ _ _ _ _ r h => by simp [eventlog_Follows.l0] at h, fun _ _ _ _ _ _ _ _ r h => by simp [eventlog_Follows.l1] at h⟩
 | k + 1 => by
  obtain ⟨ih0, ih1⟩ := eventlog_Follows.mono_l k
  refine ⟨?_, ?_⟩
  ·
   intro y0 y1 y2 y3 y4 y5
   unfold eventlog_Follows.l0
   repeat' first
   | (with_reducible exact ih0 _ _ _ _ _ _)
   | (with_reducible exact ih1 _ _ _ _ _ _ _ _)
   | (with_reducible exact LeO.refl _)
   | (with_reducible exact LeO.none _)
   | (with_reducible refine LeO.ite ?_ ?_)
   | (with_reducible refine LeO.bind ?_ (fun _ => ?_))
   | exact ih0 _ _ _ _ _ _
   | exact ih1 _ _ _ _ _ _ _ _
   | exact LeO.none _
   | refine LeO.ite ?_ ?_
   | refine LeO.bind ?_ (fun _ => ?_)
  ·
   intro y0 y1 y2 y3 y4 y5 y6 y7
   unfold eventlog_Follows.l1
   repeat' first
   | (with_reducible exact ih0 _ _ _ _ _ _)
   | (with_reducible exact ih1 _ _ _ _ _ _ _ _)
   | (with_reducible exact LeO.refl _)
   | (with_reducible exact LeO.none _)
   | (with_reducible refine LeO.ite ?_ ?_)
   | (with_reducible refine LeO.bind ?_ (fun _ => ?_))
   | exact ih0 _ _ _ _ _ _
   | exact ih1 _ _ _ _ _ _ _ _
   | exact LeO.none _
   | refine LeO.ite ?_ ?_
   | refine LeO.bind ?_ (fun _ => ?_)
theorem eventlog_Follows.mono : ∀ a0 a1 a2 k, LeO (eventlog_Follows.f k a0 a1 a2) (eventlog_Follows.f (k + 1) a0 a1 a2) := by
 intro a0 a1 a2 k
 obtain ⟨ih0, ih1⟩ := eventlog_Follows.mono_l k
 unfold eventlog_Follows.f
 repeat' first
   | (with_reducible exact ih0 _ _ _ _ _ _)
   | (with_reducible exact ih1 _ _ _ _ _ _ _ _)
   | (with_reducible exact LeO.refl _)
   | (with_reducible exact LeO.none _)
   | (with_reducible refine LeO.ite ?_ ?_)
   | (with_reducible refine LeO.bind ?_ (fun _ => ?_))
   | exact ih0 _ _ _ _ _ _
   | exact ih1 _ _ _ _ _ _ _ _
   | exact LeO.none _
   | refine LeO.ite ?_ ?_
   | refine LeO.bind ?_ (fun _ => ?_)
set_option maxHeartbeats 8000000 in
set_option maxRecDepth 100000 in
theorem eventlog_Follows.calls (k : Nat) (A0 : Option Addr) (c0 : Nat) (l0 : List (List ByteArray)) (a1 : ByteArray) (a2 : ByteArray) (r : Int) (w : World) (hr0 : Kd.C (Kd.slice 9 Kd.string) w A0 l0.length l0) (hc0 : l0.length ≤ c0) (h : eventlog_Follows.f k l0 a1 a2 = some r) :
  Calls Try.prog 14 #[.slice A0 l0.length c0, .string a1, .string a2] w fun e w' => e = .returned (.int .i64 r) ∧ Drawn0 w w' := by
 have HR0 := Aside0.mk hr0
 have HC0 := Aside0.mk hc0
 clear hr0 hc0
 have H : (eventlog_Follows.l0 k a1 a2 0 l0 (l0.length : Int) 0) = some r := h
 clear h
 have H' := Aside0.mk H
 clear H
 go_enter Try.func14, Try.ntmps14
 go_wp2
 go_loopg [7, 13] k (fun kq v7 v13 w' => ∃ (x7_1 : Int) (x13_1 : Int), v7 = .int .i64 x7_1 ∧ v13 = .int .i64 x13_1 ∧ Aside0 (eventlog_Follows.l0 kq a1 a2 x7_1 l0 (l0.length : Int) x13_1 = some r) ∧ Aside0 (kq ≤ k) ∧ Drawn0 w w')
 case atStart => exact ⟨(0), (0), (by first | rfl | (simp; done) | (simp [*]; done) | (simp [i64_w]; done)), (by first | rfl | (simp; done) | (simp [*]; done) | (simp [i64_w]; done)), H', ⟨Nat.le_refl _⟩, by repeat (first | exact Drawn0.refl _ | apply Drawn0.step)⟩
 case round =>
  clear H'
  try clear c1
  try clear p2
  obtain ⟨x7_1, x13_1, rfl, rfl, HA, HK1, ⟨m1, rfl⟩⟩ := hrel
  cases gk with
  | zero => exact absurd HA.out (by simp [eventlog_Follows.l0])
  | succ k1 =>
   have H := HA.out
   clear HA
   simp only [eventlog_Follows.l0] at H
   by_cases c4 : x13_1 < (l0.length : Int)
   ·
    rw [if_pos c4] at H
    have c4b0 : decide (x13_1 < (l0.length : Int)) = true := decide_eq_true c4
    clear c4
    by_cases c5 : 0 ≤ x13_1
    ·
     rw [if_pos c5] at H
     have c5b0 : decide (0 ≤ x13_1) = true := decide_eq_true c5
     clear c5
     by_cases c6 : x13_1 < (l0.length : Int)
     ·
      rw [if_pos c6] at H
      have c6b0 : decide (x13_1 < (l0.length : Int)) = true := decide_eq_true c6
      clear c6
      have H' := Aside0.mk H
      clear H
      have p104 : 0 ≤ (x13_1 : Int) := of_decide_eq_true (by first | (with_reducible assumption) | assumption)
      have q104 : x13_1 < (l0.length : Int) := of_decide_eq_true (by first | (with_reducible assumption) | assumption)
      obtain ⟨ad104, A104_0, c104_0, e104, hx104_0, hl104_0, hi104_0⟩ := at_L1 HR0.out x13_1 p104 q104
      cases e104
      have HR104_0 := Aside0.mk hi104_0
      have HC104_0 := Aside0.mk hl104_0
      clear hi104_0 hl104_0
      replace p104 := eq_true p104
      replace q104 := eq_true q104
      go_wp2
      go_loopg [7, 10] k1 (fun kq v7 v10 w' => ∃ (x7_2 : Int) (x10_2 : Int), v7 = .int .i64 x7_2 ∧ v10 = .int .i64 x10_2 ∧ Aside0 (eventlog_Follows.l1 kq a1 a2 x7_2 (rd_L1 l0 x13_1) x10_2 l0 (l0.length : Int) x13_1 = some r) ∧ Aside0 (kq ≤ k1) ∧ Drawn0 w w')
      case atStart => exact ⟨(x7_1), (1), (by first | rfl | (simp; done) | (simp [*]; done) | (simp [i64_w]; done)), (by first | rfl | (simp; done) | (simp [*]; done) | (simp [i64_w]; done)), H', ⟨Nat.le_refl _⟩, by repeat (first | exact Drawn0.refl _ | apply Drawn0.step)⟩
      case round =>
       clear H'
       try clear c1
       try clear p1
       try clear q1
       try clear hx1
       try clear p2
       try clear c4
       try clear c4b0
       try clear c5
       try clear c5b0
       try clear c6
       try clear c6b0
       try clear hx104_0
       try clear p104
       try clear p2
       try clear q104
       obtain ⟨x7_2, x10_2, rfl, rfl, HA, HK2, ⟨m2, rfl⟩⟩ := hrel
       cases gk with
       | zero => exact absurd HA.out (by simp [eventlog_Follows.l1])
       | succ k2 =>
        have H := HA.out
        clear HA
        simp only [eventlog_Follows.l1] at H
        by_cases c7 : x10_2 < ((rd_L1 l0 x13_1).length : Int)
        ·
         rw [if_pos c7] at H
         have c7b0 : decide (x10_2 < ((rd_L1 l0 x13_1).length : Int)) = true := decide_eq_true c7
         clear c7
         obtain ⟨ji8, hji8⟩ : ∃ j_ : Int, (wrap64 (x10_2 - 1)) = j_ := ⟨_, rfl⟩
         replace H : (if 0 ≤ (ji8) then (if (ji8) < ((rd_L1 l0 x13_1).length : Int) then (if (rdOf ByteArray.empty (rd_L1 l0 x13_1) (ji8)).toList = a1.toList then (if 0 ≤ x10_2 then (if (rdOf ByteArray.empty (rd_L1 l0 x13_1) x10_2).toList = a2.toList then (eventlog_Follows.l1 k2 a1 a2 (wrap64 (x7_2 + 1)) (rd_L1 l0 x13_1) (wrap64 (x10_2 + 1)) l0 (l0.length : Int) x13_1) else (eventlog_Follows.l1 k2 a1 a2 x7_2 (rd_L1 l0 x13_1) (wrap64 (x10_2 + 1)) l0 (l0.length : Int) x13_1)) else (none)) else (eventlog_Follows.l1 k2 a1 a2 x7_2 (rd_L1 l0 x13_1) (wrap64 (x10_2 + 1)) l0 (l0.length : Int) x13_1)) else (none)) else (none)) = some r := by first | (rw [hji8] at H; exact H) | (simp only [hji8] at H ⊢; exact H)
         have hji8w : (IntKind.i64.wrap (x10_2 - 1)) = ji8 := (i64_w _).trans hji8
         by_cases c9 : 0 ≤ (ji8)
         ·
          rw [if_pos c9] at H
          have c9b0 : decide (0 ≤ (ji8)) = true := decide_eq_true c9
          clear c9
          by_cases c10 : (ji8) < ((rd_L1 l0 x13_1).length : Int)
          ·
           rw [if_pos c10] at H
           have c10b0 : decide ((ji8) < ((rd_L1 l0 x13_1).length : Int)) = true := decide_eq_true c10
           clear c10
           by_cases c11 : (rdOf ByteArray.empty (rd_L1 l0 x13_1) (ji8)).toList = a1.toList
           ·
            rw [if_pos c11] at H
            have c11b0 : ((rdOf ByteArray.empty (rd_L1 l0 x13_1) (ji8)).toList == a1.toList) = true := beq_iff_eq.mpr c11
            have c11b1 : ((rdOf ByteArray.empty (rd_L1 l0 x13_1) (ji8)).toList != a1.toList) = false := bne_eq_false_iff_eq.mpr c11
            clear c11
            by_cases c12 : 0 ≤ x10_2
            ·
             rw [if_pos c12] at H
             have c12b0 : decide (0 ≤ x10_2) = true := decide_eq_true c12
             clear c12
             by_cases c13 : (rdOf ByteArray.empty (rd_L1 l0 x13_1) x10_2).toList = a2.toList
             ·
              rw [if_pos c13] at H
              have c13b0 : ((rdOf ByteArray.empty (rd_L1 l0 x13_1) x10_2).toList == a2.toList) = true := beq_iff_eq.mpr c13
              have c13b1 : ((rdOf ByteArray.empty (rd_L1 l0 x13_1) x10_2).toList != a2.toList) = false := bne_eq_false_iff_eq.mpr c13
              clear c13
              have H' := Aside0.mk H
              clear H
              have p105 : 0 ≤ ((ji8) : Int) := of_decide_eq_true (by first | (with_reducible assumption) | assumption)
              have q105 : (ji8) < ((rd_L1 l0 x13_1).length : Int) := of_decide_eq_true (by first | (with_reducible assumption) | assumption)
              obtain ⟨ad105, e105, hx105_0⟩ := Kd.at_string HR104_0.out (ji8) p105 q105
              cases e105
              replace p105 := eq_true p105
              replace q105 := eq_true q105
              have p106 : 0 ≤ (x10_2 : Int) := of_decide_eq_true (by first | (with_reducible assumption) | assumption)
              have q106 : x10_2 < ((rd_L1 l0 x13_1).length : Int) := of_decide_eq_true (by first | (with_reducible assumption) | assumption)
              obtain ⟨ad106, e106, hx106_0⟩ := Kd.at_string HR104_0.out x10_2 p106 q106
              obtain rfl : ad105 = ad106 := (by injection e106)
              replace p106 := eq_true p106
              replace q106 := eq_true q106
              go_wp2
              go_roundg k2
              case measure => have := HK1.out; have := HK2.out; omega
              case rel => exact ⟨(wrap64 (x7_2 + 1)), (wrap64 (x10_2 + 1)), (by first | rfl | (simp; done) | (simp [*]; done) | (simp [i64_w]; done)), (by first | rfl | (simp; done) | (simp [*]; done) | (simp [i64_w]; done)), H', ⟨by have := HK1.out; have := HK2.out; omega⟩, by repeat (first | exact Drawn0.refl _ | apply Drawn0.step)⟩
             ·
              rw [if_neg c13] at H
              have c13b0 : ((rdOf ByteArray.empty (rd_L1 l0 x13_1) x10_2).toList == a2.toList) = false := beq_eq_false_iff_ne.mpr c13
              have c13b1 : ((rdOf ByteArray.empty (rd_L1 l0 x13_1) x10_2).toList != a2.toList) = true := bne_iff_ne.mpr c13
              have H' := Aside0.mk H
              clear H
              have p105 : 0 ≤ ((ji8) : Int) := of_decide_eq_true (by first | (with_reducible assumption) | assumption)
              have q105 : (ji8) < ((rd_L1 l0 x13_1).length : Int) := of_decide_eq_true (by first | (with_reducible assumption) | assumption)
              obtain ⟨ad105, e105, hx105_0⟩ := Kd.at_string HR104_0.out (ji8) p105 q105
              cases e105
              replace p105 := eq_true p105
              replace q105 := eq_true q105
              have p106 : 0 ≤ (x10_2 : Int) := of_decide_eq_true (by first | (with_reducible assumption) | assumption)
              have q106 : x10_2 < ((rd_L1 l0 x13_1).length : Int) := of_decide_eq_true (by first | (with_reducible assumption) | assumption)
              obtain ⟨ad106, e106, hx106_0⟩ := Kd.at_string HR104_0.out x10_2 p106 q106
              obtain rfl : ad105 = ad106 := (by injection e106)
              replace p106 := eq_true p106
              replace q106 := eq_true q106
              go_wp2
              go_roundg k2
              case measure => have := HK1.out; have := HK2.out; omega
              case rel => exact ⟨(x7_2), (wrap64 (x10_2 + 1)), (by first | rfl | (simp; done) | (simp [*]; done) | (simp [i64_w]; done)), (by first | rfl | (simp; done) | (simp [*]; done) | (simp [i64_w]; done)), H', ⟨by have := HK1.out; have := HK2.out; omega⟩, by repeat (first | exact Drawn0.refl _ | apply Drawn0.step)⟩
            ·
             rw [if_neg c12] at H
             exact absurd H (by simp)
           ·
            rw [if_neg c11] at H
            have c11b0 : ((rdOf ByteArray.empty (rd_L1 l0 x13_1) (ji8)).toList == a1.toList) = false := beq_eq_false_iff_ne.mpr c11
            have c11b1 : ((rdOf ByteArray.empty (rd_L1 l0 x13_1) (ji8)).toList != a1.toList) = true := bne_iff_ne.mpr c11
            have H' := Aside0.mk H
            clear H
            have p105 : 0 ≤ ((ji8) : Int) := of_decide_eq_true (by first | (with_reducible assumption) | assumption)
            have q105 : (ji8) < ((rd_L1 l0 x13_1).length : Int) := of_decide_eq_true (by first | (with_reducible assumption) | assumption)
            obtain ⟨ad105, e105, hx105_0⟩ := Kd.at_string HR104_0.out (ji8) p105 q105
            cases e105
            replace p105 := eq_true p105
            replace q105 := eq_true q105
            go_wp2
            go_roundg k2
            case measure => have := HK1.out; have := HK2.out; omega
            case rel => exact ⟨(x7_2), (wrap64 (x10_2 + 1)), (by first | rfl | (simp; done) | (simp [*]; done) | (simp [i64_w]; done)), (by first | rfl | (simp; done) | (simp [*]; done) | (simp [i64_w]; done)), H', ⟨by have := HK1.out; have := HK2.out; omega⟩, by repeat (first | exact Drawn0.refl _ | apply Drawn0.step)⟩
          ·
           rw [if_neg c10] at H
           exact absurd H (by simp)
         ·
          rw [if_neg c9] at H
          exact absurd H (by simp)
        ·
         rw [if_neg c7] at H
         have c7b0 : decide (x10_2 < ((rd_L1 l0 x13_1).length : Int)) = false := decide_eq_false c7
         clear c7
         have H' := Aside0.mk H
         clear H
         go_wp2
         go_roundg k2
         case measure => have := HK1.out; have := HK2.out; omega
         case rel => exact ⟨(x7_2), (wrap64 (x13_1 + 1)), (by first | rfl | (simp; done) | (simp [*]; done) | (simp [i64_w]; done)), (by first | rfl | (simp; done) | (simp [*]; done) | (simp [i64_w]; done)), H', ⟨by have := HK1.out; have := HK2.out; omega⟩, by repeat (first | exact Drawn0.refl _ | apply Drawn0.step)⟩
     ·
      rw [if_neg c6] at H
      exact absurd H (by simp)
    ·
     rw [if_neg c5] at H
     exact absurd H (by simp)
   ·
    rw [if_neg c4] at H
    have c4b0 : decide (x13_1 < (l0.length : Int)) = false := decide_eq_false c4
    clear c4
    obtain rfl := Option.some.inj H
    go_wp2
    go_ret
    exact ⟨by first | rfl | (simp; done) | (simp [*]; done), by repeat (first | exact Drawn0.refl _ | apply Drawn0.step)⟩




section
-- STUBBED 16
/-! ### eventlog_Relation: function 16: by hand -/

def relOf (x y : Int) : Int := if x > 0 then (if y > 0 then 3 else 1) else (if y > 0 then 2 else 0)
def eventlog_Relation.f (k : Nat) (l0 : List (List ByteArray)) (a1 : ByteArray) (a2 : ByteArray) : Option (Int) := (eventlog_Follows.f k l0 a1 a2).bind fun t107 => ((eventlog_Follows.f k l0 a2 a1).bind fun t108 => some (relOf t107 t108))
theorem eventlog_Relation.mono (a0 : List (List ByteArray)) (a1 a2 : ByteArray) (k : Nat) : LeO (eventlog_Relation.f k a0 a1 a2) (eventlog_Relation.f (k + 1) a0 a1 a2) :=
  LeO.bind (eventlog_Follows.mono _ _ _ _) fun _ => LeO.bind (eventlog_Follows.mono _ _ _ _) fun _ => LeO.refl _
set_option maxHeartbeats 8000000 in
set_option maxRecDepth 100000 in
theorem eventlog_Relation.calls (k : Nat) (A0 : Option Addr) (c0 : Nat) (l0 : List (List ByteArray)) (a1 : ByteArray) (a2 : ByteArray) (r : Int) (w : World) (hr0 : Kd.C (Kd.slice 9 Kd.string) w A0 l0.length l0) (hc0 : l0.length ≤ c0) (h : eventlog_Relation.f k l0 a1 a2 = some r) :
    Calls Try.prog 16 #[.slice A0 l0.length c0, .string a1, .string a2] w fun e w' => e = .returned (.int .i64 r) ∧ Drawn0 w w' := by
  have HR0 := Aside0.mk hr0
  have HC0 := Aside0.mk hc0
  clear hr0 hc0
  unfold eventlog_Relation.f at h
  obtain ⟨t107, A40, h⟩ := Option.bind_eq_some_iff.mp h
  obtain ⟨t108, A50, h⟩ := Option.bind_eq_some_iff.mp h
  obtain rfl := Option.some.inj h
  have A4 := Aside0.mk A40
  have A5 := Aside0.mk A50
  clear A40 A50 h
  obtain ⟨rv, hrv⟩ : ∃ rv, relOf t107 t108 = rv := ⟨_, rfl⟩
  rw [hrv]
  have HRV := Aside0.mk hrv
  clear hrv
  obtain ⟨x, hx⟩ : ∃ x, decide (0 < t107) = x := ⟨_, rfl⟩
  obtain ⟨y, hy⟩ : ∃ y, decide (0 < t108) = y := ⟨_, rfl⟩
  cases x <;> cases y
  all_goals (
    go_enter Try.func16, Try.ntmps16
    go_wp2_with (first | ((with_reducible refine gate_callee (f := 14) rfl ?_); refine goesL_ (some 12) rfl rfl Try.func14 (by kernel_rfl) rfl #[.slice A0 l0.length c0, .string a1, .string a2] rfl (by (try simp only [List.map_toArray, List.map_cons, List.map_nil]); first | done | rfl | (simp only [List.length_drop, List.length_take]; rfl)) ?_; (with_reducible refine (eventlog_Follows.calls k _ _ l0 a1 a2 t107 _ ?side1 ?side2 A4.out).mono ?_); (case side1 => repeat (first | exact HR0.out | (with_reducible refine Kd.C_alloc ?_ _) | (with_reducible refine Kd.C_drewN ?_ _) | (with_reducible refine Kd.C_drew ?_))); (case side2 => exact HC0.out); rintro e w' ⟨rfl, ⟨nd, rfl⟩⟩; refine ⟨_, rfl, ?_⟩) | ((with_reducible refine gate_callee (f := 14) rfl ?_); refine goesL_ (some 17) rfl rfl Try.func14 (by kernel_rfl) rfl #[.slice A0 l0.length c0, .string a2, .string a1] rfl (by (try simp only [List.map_toArray, List.map_cons, List.map_nil]); first | done | rfl | (simp only [List.length_drop, List.length_take]; rfl)) ?_; (with_reducible refine (eventlog_Follows.calls k _ _ l0 a2 a1 t108 _ ?side1 ?side2 A5.out).mono ?_); (case side1 => repeat (first | exact HR0.out | (with_reducible refine Kd.C_alloc ?_ _) | (with_reducible refine Kd.C_drewN ?_ _) | (with_reducible refine Kd.C_drew ?_))); (case side2 => exact HC0.out); rintro e w' ⟨rfl, ⟨nd, rfl⟩⟩; refine ⟨_, rfl, ?_⟩))
    go_ret
    have e := HRV.out
    simp only [decide_eq_true_eq, decide_eq_false_iff_not] at hx hy
    rw [relOf] at e
    simp only [gt_iff_lt, hx, hy, if_true, if_false] at e
    subst e
    exact ⟨rfl, by repeat (first | exact Drawn0.refl _ | apply Drawn0.step)⟩)


end


attribute [local go_sem high] eqA26

/-! ### petrinetlaw48_alive: function 9 -/
def petrinetlaw48_alive.f (k : Nat)  : Option (Bool) := (eventlog_Parse.f (⟨#[97, 32, 98, 10, 97, 32, 99, 10]⟩ : ByteArray)).bind fun bt107 => (if (bt107.2.1 == 0 && (bt107.2.2 == 0)) = true then (if (bt107.1.length : Int) = 2 then ((eventlog_Relation.f k bt107.1 (⟨#[97]⟩ : ByteArray) (⟨#[98]⟩ : ByteArray)).bind fun t113 => (if t113 = 1 then ((eventlog_Relation.f k bt107.1 (⟨#[98]⟩ : ByteArray) (⟨#[99]⟩ : ByteArray)).bind fun t114 => (if t114 = 0 then ((eventlog_Name.f (⟨#[97, 49]⟩ : ByteArray)).bind fun t115 => (if t115 = true then ((eventlog_Name.f (⟨#[49, 97]⟩ : ByteArray)).bind fun t116 => (some (!t116))) else (some false))) else (some false))) else (some false))) else (some false)) else (some false))
theorem petrinetlaw48_alive.mono : ∀ k, LeO (petrinetlaw48_alive.f k ) (petrinetlaw48_alive.f (k + 1) ) := by
 intro  k
 unfold petrinetlaw48_alive.f
 repeat' first
   | (with_reducible exact eventlog_Relation.mono _ _ _ _)
   | (with_reducible exact LeO.refl _)
   | (with_reducible exact LeO.none _)
   | (with_reducible refine LeO.ite ?_ ?_)
   | (with_reducible refine LeO.bind ?_ (fun _ => ?_))
   | exact eventlog_Relation.mono _ _ _ _
   | exact LeO.none _
   | refine LeO.ite ?_ ?_
   | refine LeO.bind ?_ (fun _ => ?_)
set_option maxHeartbeats 8000000 in
set_option maxRecDepth 100000 in
theorem petrinetlaw48_alive.calls (k : Nat)  (r : Bool) (w : World) (h : petrinetlaw48_alive.f k  = some r) (hrT_ : Aside0 (r = true)) :
  Calls Try.prog 9 #[] w fun e w' => e = .returned (.bool r) ∧ Below w.heap.size w w' := by
 have hu26 := Try.underlying26
 have hu3 := Try.underlying3
 have hu24 := Try.underlying24
 have HB := Aside0.mk (Below.refl w.heap.size w)
 have H : ((eventlog_Parse.f (⟨#[97, 32, 98, 10, 97, 32, 99, 10]⟩ : ByteArray)).bind fun bt107 => (if (bt107.2.1 == 0 && (bt107.2.2 == 0)) = true then (if (bt107.1.length : Int) = 2 then ((eventlog_Relation.f k bt107.1 (⟨#[97]⟩ : ByteArray) (⟨#[98]⟩ : ByteArray)).bind fun t113 => (if t113 = 1 then ((eventlog_Relation.f k bt107.1 (⟨#[98]⟩ : ByteArray) (⟨#[99]⟩ : ByteArray)).bind fun t114 => (if t114 = 0 then ((eventlog_Name.f (⟨#[97, 49]⟩ : ByteArray)).bind fun t115 => (if t115 = true then ((eventlog_Name.f (⟨#[49, 97]⟩ : ByteArray)).bind fun t116 => (some (!t116))) else (some false))) else (some false))) else (some false))) else (some false)) else (some false))) = some r := h
 clear h
 replace H := Option.bind_eq_some_iff.mp H
 obtain ⟨⟨t107, t110, t111⟩, A10, H⟩ := H
 replace H : (if (t110 == 0 && (t111 == 0)) = true then (if (t107.length : Int) = 2 then ((eventlog_Relation.f k t107 (⟨#[97]⟩ : ByteArray) (⟨#[98]⟩ : ByteArray)).bind fun t113 => (if t113 = 1 then ((eventlog_Relation.f k t107 (⟨#[98]⟩ : ByteArray) (⟨#[99]⟩ : ByteArray)).bind fun t114 => (if t114 = 0 then ((eventlog_Name.f (⟨#[97, 49]⟩ : ByteArray)).bind fun t115 => (if t115 = true then ((eventlog_Name.f (⟨#[49, 97]⟩ : ByteArray)).bind fun t116 => (some (!t116))) else (some false))) else (some false))) else (some false))) else (some false)) else (some false)) = some r := H
 have A1 := Aside0.mk A10
 clear A10
 by_cases c2 : (t110 == 0 && (t111 == 0)) = true
 ·
  rw [if_pos c2] at H
  have c2b0 : (t110 == 0 && (t111 == 0)) = true := c2
  (try (have c2b1 : decide (t110 = 0 && (t111 == 0)) = true := by simpa using c2))
  (try (have c2b2 : (t110 == 0 && (t111 == 0)) = true := by simpa using c2))
  clear c2
  by_cases c3 : (t107.length : Int) = 2
  ·
   rw [if_pos c3] at H
   have c3b0 : ((t107.length : Int) == 2) = true := beq_iff_eq.mpr c3
   have c3b1 : ((t107.length : Int) != 2) = false := bne_eq_false_iff_eq.mpr c3
   clear c3
   replace H := Option.bind_eq_some_iff.mp H
   obtain ⟨t113, A40, H⟩ := H
   replace H : (if t113 = 1 then ((eventlog_Relation.f k t107 (⟨#[98]⟩ : ByteArray) (⟨#[99]⟩ : ByteArray)).bind fun t114 => (if t114 = 0 then ((eventlog_Name.f (⟨#[97, 49]⟩ : ByteArray)).bind fun t115 => (if t115 = true then ((eventlog_Name.f (⟨#[49, 97]⟩ : ByteArray)).bind fun t116 => (some (!t116))) else (some false))) else (some false))) else (some false)) = some r := H
   have A4 := Aside0.mk A40
   clear A40
   by_cases c5 : t113 = 1
   ·
    rw [if_pos c5] at H
    have c5b0 : (t113 == 1) = true := beq_iff_eq.mpr c5
    have c5b1 : (t113 != 1) = false := bne_eq_false_iff_eq.mpr c5
    clear c5
    replace H := Option.bind_eq_some_iff.mp H
    obtain ⟨t114, A60, H⟩ := H
    replace H : (if t114 = 0 then ((eventlog_Name.f (⟨#[97, 49]⟩ : ByteArray)).bind fun t115 => (if t115 = true then ((eventlog_Name.f (⟨#[49, 97]⟩ : ByteArray)).bind fun t116 => (some (!t116))) else (some false))) else (some false)) = some r := H
    have A6 := Aside0.mk A60
    clear A60
    by_cases c7 : t114 = 0
    ·
     rw [if_pos c7] at H
     have c7b0 : (t114 == 0) = true := beq_iff_eq.mpr c7
     have c7b1 : (t114 != 0) = false := bne_eq_false_iff_eq.mpr c7
     clear c7
     replace H := Option.bind_eq_some_iff.mp H
     obtain ⟨t115, A80, H⟩ := H
     replace H : (if t115 = true then ((eventlog_Name.f (⟨#[49, 97]⟩ : ByteArray)).bind fun t116 => (some (!t116))) else (some false)) = some r := H
     have A8 := Aside0.mk A80
     clear A80
     by_cases c9 : t115 = true
     ·
      subst c9
      have H1 : ((eventlog_Name.f (⟨#[49, 97]⟩ : ByteArray)).bind fun t116 => (some (!t116))) = some r := by rw [if_pos rfl] at H; exact H
      clear H
      have H := H1
      clear H1
      replace H := Option.bind_eq_some_iff.mp H
      obtain ⟨t116, A100, H⟩ := H
      replace H : (some (!t116)) = some r := H
      have A10 := Aside0.mk A100
      clear A100
      obtain rfl := Option.some.inj H
      go_enter Try.func9, Try.ntmps9
      go_wp2_with (first | ((with_reducible refine gate_callee (f := 10) rfl ?_); refine goesL_ (some 4) rfl rfl Try.func10 (by kernel_rfl) rfl #[.string (⟨#[97, 32, 98, 10, 97, 32, 99, 10]⟩ : ByteArray)] rfl (by (try simp only [List.map_toArray, List.map_cons, List.map_nil]); first | done | rfl | (simp only [List.length_drop, List.length_take]; rfl)) ?_; (with_reducible refine (eventlog_Parse.calls (⟨#[97, 32, 98, 10, 97, 32, 99, 10]⟩ : ByteArray) t107 t110 t111 _ A1.out).mono ?_); rintro e w11 ⟨v108, rfl, ho0, hb⟩; refine ⟨_, rfl, ?_⟩; have n0_ := Aside0.mk (Kd.S_lower ho0 (below_size (by repeat (first | (with_reducible first | exact HB.out | apply below_alloc | apply pw_below_drewN | apply below_drew1) | exact HB.out)))); have n1_ := Aside0.mk (below_step (by repeat (first | (with_reducible first | exact HB.out | apply below_alloc | apply pw_below_drewN | apply below_drew1) | exact HB.out)) hb); clear HB; have HO109 := n0_; have HB := n1_; clear n0_ n1_; (try clear hb); (try clear hb2); (try clear hk); (try clear hi); (try clear ho0)) | ((with_reducible refine gate_dst (N := 2) rfl ?_); (try (refine gate_guard (by rfl) ?_; dsimp only)); refine box_event ?hg (N := 2) ?hd (cs := #[.int .i64 0, .int .i64 0]) (t := 26) ?hr ?_; (case hd => rfl); (case hg => rfl); (case hr => first | (go_simp; done) | (go_simp; rfl)); intro gb112 hg w12 hbox hb; have n0_ := Aside0.mk (Kd.S_below (by (with_reducible repeat (first | apply Kd.S_alloc | apply Kd.S_drewN | apply Kd.S_drew)); exact HO109.out) hb); have n1_ := Aside0.mk (below_step (by repeat (first | (with_reducible first | exact HB.out | apply below_alloc | apply pw_below_drewN | apply below_drew1) | exact HB.out)) hb); have n2_ := Aside0.mk (hbox); have n3_ := Aside0.mk ((by rw [hg]; exact (below_size (by repeat (first | (with_reducible first | exact HB.out | apply below_alloc | apply pw_below_drewN | apply below_drew1) | exact HB.out))) : w.heap.size ≤ gb112)); have n4_ := Aside0.mk ((by rw [hg]; exact (below_size (by repeat (first | (with_reducible first | exact HB.out | apply below_alloc | apply pw_below_drewN | apply below_drew1) | exact HB.out))) : w.heap.size ≤ gb112)); clear HO109; clear HB; have HO109 := n0_; have HB := n1_; have BK112 := n2_; have GW112 := n3_; have GE112 := n4_; clear n0_ n1_ n2_ n3_ n4_; clear hb hbox hg; have hcz13_0 : w12.cell? ⟨gb112, 0, none⟩ = some (.int .i64 0) := (blk_cell BK112.out 0).trans rfl; have hcz13_1 : w12.cell? ⟨gb112, 1, none⟩ = some (.int .i64 0) := (blk_cell BK112.out 1).trans rfl; have hfz13_0 := blk_frozen BK112.out 0; have hfz13_1 := blk_frozen BK112.out 1; obtain ⟨Ao14, co14, eo14⟩ := Kd.S_slice HO109.out; subst eo14) | (go_at_call 16; (with_reducible refine (eventlog_Relation.calls k _ _ t107 (⟨#[97]⟩ : ByteArray) (⟨#[98]⟩ : ByteArray) t113 _ ?side1 ?side2 A4.out).mono ?_); (case side1 => refine (Kd.S_reads' (e := 34) (base := w.heap.size) (ok := fun k_ => True) (n := t107.length) (c := co14) ?_).2.2; exact (by (with_reducible repeat (first | apply Kd.S_alloc | apply Kd.S_drewN | apply Kd.S_drew)); exact (Kd.S_mono (Kd.S_far (p := ⟨gb112, 1, none⟩) (Kd.S_far (p := ⟨gb112, 0, none⟩) (Kd.S_types HO109.out BK112.out (by decide)) (fun _ hk => hk.2) (.int .i64 t110)) (fun _ hk => hk.2) (.int .i64 t111)) (fun _ h_ => h_.1)))); (case side2 => exact (Kd.S_reads' HO109.out).2.1); rintro e w' ⟨rfl, ⟨nd, rfl⟩⟩) | (go_at_call 16; (with_reducible refine (eventlog_Relation.calls k _ _ t107 (⟨#[98]⟩ : ByteArray) (⟨#[99]⟩ : ByteArray) t114 _ ?side1 ?side2 A6.out).mono ?_); (case side1 => refine (Kd.S_reads' (e := 34) (base := w.heap.size) (ok := fun k_ => True) (n := t107.length) (c := co14) ?_).2.2; exact (by (with_reducible repeat (first | apply Kd.S_alloc | apply Kd.S_drewN | apply Kd.S_drew)); exact (Kd.S_mono (Kd.S_far (p := ⟨gb112, 1, none⟩) (Kd.S_far (p := ⟨gb112, 0, none⟩) (Kd.S_types HO109.out BK112.out (by decide)) (fun _ hk => hk.2) (.int .i64 t110)) (fun _ hk => hk.2) (.int .i64 t111)) (fun _ h_ => h_.1)))); (case side2 => exact (Kd.S_reads' HO109.out).2.1); rintro e w' ⟨rfl, ⟨nd, rfl⟩⟩) | (go_at_call 22; (with_reducible refine (eventlog_Name.calls (⟨#[97, 49]⟩ : ByteArray) true _ A8.out).mono ?_); rintro e w15 ⟨rfl, hb⟩; have n0_ := Aside0.mk (Kd.S_below (by (with_reducible repeat (first | apply Kd.S_alloc | apply Kd.S_drewN | apply Kd.S_drew)); exact (Kd.S_mono (Kd.S_far (p := ⟨gb112, 1, none⟩) (Kd.S_far (p := ⟨gb112, 0, none⟩) (Kd.S_types HO109.out BK112.out (by decide)) (fun _ hk => hk.2) (.int .i64 t110)) (fun _ hk => hk.2) (.int .i64 t111)) (fun _ h_ => h_.1))) hb); have n1_ := Aside0.mk (blk_below (g := gb112) (o := .cells #[.int .i64 t110, .int .i64 t111] 26 (0, 0)) (by (with_reducible repeat (first | refine blk_drewN ?_ _ | refine blk_drew ?_ | refine blk_alloc ?_ _)); refine blk_put (cs := #[.int .i64 t110, .int .i64 0]) ?_ 1 _ rfl; (with_reducible repeat (first | refine blk_drewN ?_ _ | refine blk_drew ?_ | refine blk_alloc ?_ _)); refine blk_put (cs := #[.int .i64 0, .int .i64 0]) ?_ 0 _ rfl; (with_reducible repeat (first | refine blk_drewN ?_ _ | refine blk_drew ?_ | refine blk_alloc ?_ _)); exact BK112.out) hb); have n2_ := Aside0.mk (below_step (by repeat (first | (with_reducible first | exact HB.out | apply below_alloc | apply pw_below_drewN | apply below_drew1 | refine below_set ?_ GE112.out) | exact HB.out)) hb); clear HO109; clear BK112; clear HB; have HO109 := n0_; have BK112 := n1_; have HB := n2_; clear n0_ n1_ n2_; (try clear hb); (try clear hb2); (try clear hk); (try clear hi)) | (go_at_call 22; (with_reducible refine (eventlog_Name.calls (⟨#[49, 97]⟩ : ByteArray) t116 _ A10.out).mono ?_); rintro e w16 ⟨rfl, hb⟩; have n0_ := Aside0.mk (Kd.S_below (by (with_reducible repeat (first | apply Kd.S_alloc | apply Kd.S_drewN | apply Kd.S_drew)); exact HO109.out) hb); have n1_ := Aside0.mk (blk_below (g := gb112) (o := .cells #[.int .i64 t110, .int .i64 t111] 26 (0, 0)) (by (with_reducible repeat (first | refine blk_drewN ?_ _ | refine blk_drew ?_ | refine blk_alloc ?_ _)); exact BK112.out) hb); have n2_ := Aside0.mk (below_step (by repeat (first | (with_reducible first | exact HB.out | apply below_alloc | apply pw_below_drewN | apply below_drew1 | refine below_set ?_ GE112.out) | exact HB.out)) hb); clear HO109; clear BK112; clear HB; have HO109 := n0_; have BK112 := n1_; have HB := n2_; clear n0_ n1_ n2_; (try clear hb); (try clear hb2); (try clear hk); (try clear hi)))
      go_ret
      exact ⟨by first | rfl | (simp [errW_none, errW_some] <;> rfl) | (simp [*, errW_none, errW_some] <;> rfl), by repeat (first | (with_reducible first | exact HB.out | apply below_alloc | apply pw_below_drewN | apply below_drew1 | refine below_set ?_ GE112.out) | exact HB.out)⟩
     ·
      replace c9 := Bool.eq_false_iff.mpr c9
      subst c9
      have H1 : (some false) = some r := by rw [if_neg (show ¬ (false = true) by decide)] at H; exact H
      clear H
      have H := H1
      clear H1
      exact absurd ((Option.some.inj H).trans hrT_.out) Bool.false_ne_true
    ·
     rw [if_neg c7] at H
     have c7b0 : (t114 == 0) = false := beq_eq_false_iff_ne.mpr c7
     have c7b1 : (t114 != 0) = true := bne_iff_ne.mpr c7
     exact absurd ((Option.some.inj H).trans hrT_.out) Bool.false_ne_true
   ·
    rw [if_neg c5] at H
    have c5b0 : (t113 == 1) = false := beq_eq_false_iff_ne.mpr c5
    have c5b1 : (t113 != 1) = true := bne_iff_ne.mpr c5
    exact absurd ((Option.some.inj H).trans hrT_.out) Bool.false_ne_true
  ·
   rw [if_neg c3] at H
   have c3b0 : ((t107.length : Int) == 2) = false := beq_eq_false_iff_ne.mpr c3
   have c3b1 : ((t107.length : Int) != 2) = true := bne_iff_ne.mpr c3
   exact absurd ((Option.some.inj H).trans hrT_.out) Bool.false_ne_true
 ·
  rw [if_neg c2] at H
  have c2b0 : (t110 == 0 && (t111 == 0)) = false := by simpa using c2
  (try (have c2b1 : decide (t110 = 0 && (t111 == 0)) = false := by simpa using c2))
  (try (have c2b2 : (t110 == 0 && (t111 == 0)) = false := by simpa using c2))
  (try (have c2b3 : ¬ (t110 = 0 && (t111 == 0)) := by simpa using c2))
  clear c2
  exact absurd ((Option.some.inj H).trans hrT_.out) Bool.false_ne_true


/-! ### petrinetref48_Name: function 23 -/
def petrinetref48_Name.l0 : Nat → ByteArray → Int → Option (Bool)
 | 0, _, _ => none
 | k + 1, x0, x3 => if x3 < (x0.size : Int) then (if 0 ≤ x3 then (if (bt x0 x3) ≥ 97 then (if (bt x0 x3) ≤ 122 then (petrinetref48_Name.l0 k x0 (wrap64 (x3 + 1))) else (if ((bt x0 x3) = 95) then (petrinetref48_Name.l0 k x0 (wrap64 (x3 + 1))) else (if x3 = 0 then (some false) else (if (bt x0 x3) = 46 then (petrinetref48_Name.l0 k x0 (wrap64 (x3 + 1))) else (if (bt x0 x3) < 48 then (some false) else (if (bt x0 x3) > 57 then (some false) else (petrinetref48_Name.l0 k x0 (wrap64 (x3 + 1))))))))) else (if ((bt x0 x3) = 95) then (petrinetref48_Name.l0 k x0 (wrap64 (x3 + 1))) else (if x3 = 0 then (some false) else (if (bt x0 x3) = 46 then (petrinetref48_Name.l0 k x0 (wrap64 (x3 + 1))) else (if (bt x0 x3) < 48 then (some false) else (if (bt x0 x3) > 57 then (some false) else (petrinetref48_Name.l0 k x0 (wrap64 (x3 + 1))))))))) else (none)) else (if (x0.size : Int) ≥ 1 then (some (decide ((x0.size : Int) ≤ 16))) else (some false))
def petrinetref48_Name.f (k : Nat) (a0 : ByteArray) : Option (Bool) := petrinetref48_Name.l0 k a0 0
theorem petrinetref48_Name.mono_l : ∀ k, (∀ y0 y1, LeO (petrinetref48_Name.l0 k y0 y1) (petrinetref48_Name.l0 (k + 1) y0 y1))
 | 0 => fun _ _ r h => by simp [petrinetref48_Name.l0] at h
 | k + 1 => by
  have ih0 := petrinetref48_Name.mono_l k
  ·
   intro y0 y1
   unfold petrinetref48_Name.l0
   repeat' first
   | (with_reducible exact ih0 _ _)
   | (with_reducible exact LeO.refl _)
   | (with_reducible exact LeO.none _)
   | (with_reducible refine LeO.ite ?_ ?_)
   | (with_reducible refine LeO.bind ?_ (fun _ => ?_))
   | exact ih0 _ _
   | exact LeO.none _
   | refine LeO.ite ?_ ?_
   | refine LeO.bind ?_ (fun _ => ?_)
theorem petrinetref48_Name.mono : ∀ a0 k, LeO (petrinetref48_Name.f k a0) (petrinetref48_Name.f (k + 1) a0) := by
 intro a0 k
 have ih0 := petrinetref48_Name.mono_l k
 unfold petrinetref48_Name.f
 repeat' first
   | (with_reducible exact ih0 _ _)
   | (with_reducible exact LeO.refl _)
   | (with_reducible exact LeO.none _)
   | (with_reducible refine LeO.ite ?_ ?_)
   | (with_reducible refine LeO.bind ?_ (fun _ => ?_))
   | exact ih0 _ _
   | exact LeO.none _
   | refine LeO.ite ?_ ?_
   | refine LeO.bind ?_ (fun _ => ?_)
set_option maxHeartbeats 8000000 in
set_option maxRecDepth 100000 in
theorem petrinetref48_Name.calls (k : Nat) (a0 : ByteArray) (r : Bool) (w : World) (h : petrinetref48_Name.f k a0 = some r) :
  Calls Try.prog 23 #[.string a0] w fun e w' => e = .returned (.bool r) ∧ Drawn0 w w' := by
 have H : (petrinetref48_Name.l0 k a0 0) = some r := h
 clear h
 have H' := Aside0.mk H
 clear H
 go_enter Try.func23, Try.ntmps23
 go_wp2
 go_loopg [3] k (fun kq v3 w' => ∃ (x3_1 : Int), v3 = .int .i64 x3_1 ∧ Aside0 (petrinetref48_Name.l0 kq a0 x3_1 = some r) ∧ Aside0 (kq ≤ k) ∧ Drawn0 w w')
 case atStart => exact ⟨(0), (by first | rfl | (simp; done) | (simp [*]; done) | (simp [i64_w]; done)), H', ⟨Nat.le_refl _⟩, by repeat (first | exact Drawn0.refl _ | apply Drawn0.step)⟩
 case round =>
  clear H'
  obtain ⟨x3_1, rfl, HA, HK1, ⟨m1, rfl⟩⟩ := hrel
  cases gk with
  | zero => exact absurd HA.out (by simp [petrinetref48_Name.l0])
  | succ k1 =>
   have H := HA.out
   clear HA
   simp only [petrinetref48_Name.l0] at H
   by_cases c2 : x3_1 < (a0.size : Int)
   ·
    rw [if_pos c2] at H
    have c2b0 : decide (x3_1 < (a0.size : Int)) = true := decide_eq_true c2
    clear c2
    by_cases c3 : 0 ≤ x3_1
    ·
     rw [if_pos c3] at H
     have c3b0 : decide (0 ≤ x3_1) = true := decide_eq_true c3
     clear c3
     by_cases c5 : (bt a0 x3_1) ≥ 97
     ·
      rw [if_pos c5] at H
      have c5b0 : decide (97 ≤ (bt a0 x3_1)) = true := decide_eq_true c5
      clear c5
      by_cases c7 : (bt a0 x3_1) ≤ 122
      ·
       rw [if_pos c7] at H
       have c7b0 : decide ((bt a0 x3_1) ≤ 122) = true := decide_eq_true c7
       clear c7
       have H' := Aside0.mk H
       clear H
       have p4 : 0 ≤ (x3_1 : Int) := of_decide_eq_true (by first | (with_reducible assumption) | assumption)
       have q4 : x3_1 < (a0.size : Int) := of_decide_eq_true (by first | (with_reducible assumption) | assumption)
       have hx4 := bt_at a0 x3_1
       replace p4 := eq_true p4
       replace q4 := eq_true q4
       have p6 : 0 ≤ (x3_1 : Int) := of_decide_eq_true (by first | (with_reducible assumption) | assumption)
       have q6 : x3_1 < (a0.size : Int) := of_decide_eq_true (by first | (with_reducible assumption) | assumption)
       have hx6 := bt_at a0 x3_1
       replace p6 := eq_true p6
       replace q6 := eq_true q6
       go_wp2
       go_roundg k1
       case measure => have := HK1.out; omega
       case rel => exact ⟨(wrap64 (x3_1 + 1)), (by first | rfl | (simp; done) | (simp [*]; done) | (simp [i64_w]; done)), H', ⟨by have := HK1.out; omega⟩, by repeat (first | exact Drawn0.refl _ | apply Drawn0.step)⟩
      ·
       rw [if_neg c7] at H
       have c7b0 : decide ((bt a0 x3_1) ≤ 122) = false := decide_eq_false c7
       clear c7
       by_cases c9 : ((bt a0 x3_1) = 95)
       ·
        rw [if_pos c9] at H
        have c9b0 : ((bt a0 x3_1) == 95) = true := beq_iff_eq.mpr c9
        have c9b1 : ((bt a0 x3_1) != 95) = false := bne_eq_false_iff_eq.mpr c9
        clear c9
        have H' := Aside0.mk H
        clear H
        have p4 : 0 ≤ (x3_1 : Int) := of_decide_eq_true (by first | (with_reducible assumption) | assumption)
        have q4 : x3_1 < (a0.size : Int) := of_decide_eq_true (by first | (with_reducible assumption) | assumption)
        have hx4 := bt_at a0 x3_1
        replace p4 := eq_true p4
        replace q4 := eq_true q4
        have p6 : 0 ≤ (x3_1 : Int) := of_decide_eq_true (by first | (with_reducible assumption) | assumption)
        have q6 : x3_1 < (a0.size : Int) := of_decide_eq_true (by first | (with_reducible assumption) | assumption)
        have hx6 := bt_at a0 x3_1
        replace p6 := eq_true p6
        replace q6 := eq_true q6
        have p8 : 0 ≤ (x3_1 : Int) := of_decide_eq_true (by first | (with_reducible assumption) | assumption)
        have q8 : x3_1 < (a0.size : Int) := of_decide_eq_true (by first | (with_reducible assumption) | assumption)
        have hx8 := bt_at a0 x3_1
        replace p8 := eq_true p8
        replace q8 := eq_true q8
        go_wp2
        go_roundg k1
        case measure => have := HK1.out; omega
        case rel => exact ⟨(wrap64 (x3_1 + 1)), (by first | rfl | (simp; done) | (simp [*]; done) | (simp [i64_w]; done)), H', ⟨by have := HK1.out; omega⟩, by repeat (first | exact Drawn0.refl _ | apply Drawn0.step)⟩
       ·
        rw [if_neg c9] at H
        have c9b0 : ((bt a0 x3_1) == 95) = false := beq_eq_false_iff_ne.mpr c9
        have c9b1 : ((bt a0 x3_1) != 95) = true := bne_iff_ne.mpr c9
        by_cases c10 : x3_1 = 0
        ·
         rw [if_pos c10] at H
         have c10b0 : (x3_1 == 0) = true := beq_iff_eq.mpr c10
         have c10b1 : (x3_1 != 0) = false := bne_eq_false_iff_eq.mpr c10
         clear c10
         obtain rfl := Option.some.inj H
         have p4 : 0 ≤ (x3_1 : Int) := of_decide_eq_true (by first | (with_reducible assumption) | assumption)
         have q4 : x3_1 < (a0.size : Int) := of_decide_eq_true (by first | (with_reducible assumption) | assumption)
         have hx4 := bt_at a0 x3_1
         replace p4 := eq_true p4
         replace q4 := eq_true q4
         have p6 : 0 ≤ (x3_1 : Int) := of_decide_eq_true (by first | (with_reducible assumption) | assumption)
         have q6 : x3_1 < (a0.size : Int) := of_decide_eq_true (by first | (with_reducible assumption) | assumption)
         have hx6 := bt_at a0 x3_1
         replace p6 := eq_true p6
         replace q6 := eq_true q6
         have p8 : 0 ≤ (x3_1 : Int) := of_decide_eq_true (by first | (with_reducible assumption) | assumption)
         have q8 : x3_1 < (a0.size : Int) := of_decide_eq_true (by first | (with_reducible assumption) | assumption)
         have hx8 := bt_at a0 x3_1
         replace p8 := eq_true p8
         replace q8 := eq_true q8
         go_wp2
         go_ret
         exact ⟨by first | rfl | (simp; done) | (simp [*]; done), by repeat (first | exact Drawn0.refl _ | apply Drawn0.step)⟩
        ·
         rw [if_neg c10] at H
         have c10b0 : (x3_1 == 0) = false := beq_eq_false_iff_ne.mpr c10
         have c10b1 : (x3_1 != 0) = true := bne_iff_ne.mpr c10
         by_cases c12 : (bt a0 x3_1) = 46
         ·
          rw [if_pos c12] at H
          have c12b0 : ((bt a0 x3_1) == 46) = true := beq_iff_eq.mpr c12
          have c12b1 : ((bt a0 x3_1) != 46) = false := bne_eq_false_iff_eq.mpr c12
          clear c12
          have H' := Aside0.mk H
          clear H
          have p4 : 0 ≤ (x3_1 : Int) := of_decide_eq_true (by first | (with_reducible assumption) | assumption)
          have q4 : x3_1 < (a0.size : Int) := of_decide_eq_true (by first | (with_reducible assumption) | assumption)
          have hx4 := bt_at a0 x3_1
          replace p4 := eq_true p4
          replace q4 := eq_true q4
          have p6 : 0 ≤ (x3_1 : Int) := of_decide_eq_true (by first | (with_reducible assumption) | assumption)
          have q6 : x3_1 < (a0.size : Int) := of_decide_eq_true (by first | (with_reducible assumption) | assumption)
          have hx6 := bt_at a0 x3_1
          replace p6 := eq_true p6
          replace q6 := eq_true q6
          have p8 : 0 ≤ (x3_1 : Int) := of_decide_eq_true (by first | (with_reducible assumption) | assumption)
          have q8 : x3_1 < (a0.size : Int) := of_decide_eq_true (by first | (with_reducible assumption) | assumption)
          have hx8 := bt_at a0 x3_1
          replace p8 := eq_true p8
          replace q8 := eq_true q8
          have p11 : 0 ≤ (x3_1 : Int) := of_decide_eq_true (by first | (with_reducible assumption) | assumption)
          have q11 : x3_1 < (a0.size : Int) := of_decide_eq_true (by first | (with_reducible assumption) | assumption)
          have hx11 := bt_at a0 x3_1
          replace p11 := eq_true p11
          replace q11 := eq_true q11
          go_wp2
          go_roundg k1
          case measure => have := HK1.out; omega
          case rel => exact ⟨(wrap64 (x3_1 + 1)), (by first | rfl | (simp; done) | (simp [*]; done) | (simp [i64_w]; done)), H', ⟨by have := HK1.out; omega⟩, by repeat (first | exact Drawn0.refl _ | apply Drawn0.step)⟩
         ·
          rw [if_neg c12] at H
          have c12b0 : ((bt a0 x3_1) == 46) = false := beq_eq_false_iff_ne.mpr c12
          have c12b1 : ((bt a0 x3_1) != 46) = true := bne_iff_ne.mpr c12
          by_cases c14 : (bt a0 x3_1) < 48
          ·
           rw [if_pos c14] at H
           have c14b0 : decide ((bt a0 x3_1) < 48) = true := decide_eq_true c14
           clear c14
           obtain rfl := Option.some.inj H
           have p4 : 0 ≤ (x3_1 : Int) := of_decide_eq_true (by first | (with_reducible assumption) | assumption)
           have q4 : x3_1 < (a0.size : Int) := of_decide_eq_true (by first | (with_reducible assumption) | assumption)
           have hx4 := bt_at a0 x3_1
           replace p4 := eq_true p4
           replace q4 := eq_true q4
           have p6 : 0 ≤ (x3_1 : Int) := of_decide_eq_true (by first | (with_reducible assumption) | assumption)
           have q6 : x3_1 < (a0.size : Int) := of_decide_eq_true (by first | (with_reducible assumption) | assumption)
           have hx6 := bt_at a0 x3_1
           replace p6 := eq_true p6
           replace q6 := eq_true q6
           have p8 : 0 ≤ (x3_1 : Int) := of_decide_eq_true (by first | (with_reducible assumption) | assumption)
           have q8 : x3_1 < (a0.size : Int) := of_decide_eq_true (by first | (with_reducible assumption) | assumption)
           have hx8 := bt_at a0 x3_1
           replace p8 := eq_true p8
           replace q8 := eq_true q8
           have p11 : 0 ≤ (x3_1 : Int) := of_decide_eq_true (by first | (with_reducible assumption) | assumption)
           have q11 : x3_1 < (a0.size : Int) := of_decide_eq_true (by first | (with_reducible assumption) | assumption)
           have hx11 := bt_at a0 x3_1
           replace p11 := eq_true p11
           replace q11 := eq_true q11
           have p13 : 0 ≤ (x3_1 : Int) := of_decide_eq_true (by first | (with_reducible assumption) | assumption)
           have q13 : x3_1 < (a0.size : Int) := of_decide_eq_true (by first | (with_reducible assumption) | assumption)
           have hx13 := bt_at a0 x3_1
           replace p13 := eq_true p13
           replace q13 := eq_true q13
           go_wp2
           go_ret
           exact ⟨by first | rfl | (simp; done) | (simp [*]; done), by repeat (first | exact Drawn0.refl _ | apply Drawn0.step)⟩
          ·
           rw [if_neg c14] at H
           have c14b0 : decide ((bt a0 x3_1) < 48) = false := decide_eq_false c14
           clear c14
           by_cases c16 : (bt a0 x3_1) > 57
           ·
            rw [if_pos c16] at H
            have c16b0 : decide (57 < (bt a0 x3_1)) = true := decide_eq_true c16
            clear c16
            obtain rfl := Option.some.inj H
            have p4 : 0 ≤ (x3_1 : Int) := of_decide_eq_true (by first | (with_reducible assumption) | assumption)
            have q4 : x3_1 < (a0.size : Int) := of_decide_eq_true (by first | (with_reducible assumption) | assumption)
            have hx4 := bt_at a0 x3_1
            replace p4 := eq_true p4
            replace q4 := eq_true q4
            have p6 : 0 ≤ (x3_1 : Int) := of_decide_eq_true (by first | (with_reducible assumption) | assumption)
            have q6 : x3_1 < (a0.size : Int) := of_decide_eq_true (by first | (with_reducible assumption) | assumption)
            have hx6 := bt_at a0 x3_1
            replace p6 := eq_true p6
            replace q6 := eq_true q6
            have p8 : 0 ≤ (x3_1 : Int) := of_decide_eq_true (by first | (with_reducible assumption) | assumption)
            have q8 : x3_1 < (a0.size : Int) := of_decide_eq_true (by first | (with_reducible assumption) | assumption)
            have hx8 := bt_at a0 x3_1
            replace p8 := eq_true p8
            replace q8 := eq_true q8
            have p11 : 0 ≤ (x3_1 : Int) := of_decide_eq_true (by first | (with_reducible assumption) | assumption)
            have q11 : x3_1 < (a0.size : Int) := of_decide_eq_true (by first | (with_reducible assumption) | assumption)
            have hx11 := bt_at a0 x3_1
            replace p11 := eq_true p11
            replace q11 := eq_true q11
            have p13 : 0 ≤ (x3_1 : Int) := of_decide_eq_true (by first | (with_reducible assumption) | assumption)
            have q13 : x3_1 < (a0.size : Int) := of_decide_eq_true (by first | (with_reducible assumption) | assumption)
            have hx13 := bt_at a0 x3_1
            replace p13 := eq_true p13
            replace q13 := eq_true q13
            have p15 : 0 ≤ (x3_1 : Int) := of_decide_eq_true (by first | (with_reducible assumption) | assumption)
            have q15 : x3_1 < (a0.size : Int) := of_decide_eq_true (by first | (with_reducible assumption) | assumption)
            have hx15 := bt_at a0 x3_1
            replace p15 := eq_true p15
            replace q15 := eq_true q15
            go_wp2
            go_ret
            exact ⟨by first | rfl | (simp; done) | (simp [*]; done), by repeat (first | exact Drawn0.refl _ | apply Drawn0.step)⟩
           ·
            rw [if_neg c16] at H
            have c16b0 : decide (57 < (bt a0 x3_1)) = false := decide_eq_false c16
            clear c16
            have H' := Aside0.mk H
            clear H
            have p4 : 0 ≤ (x3_1 : Int) := of_decide_eq_true (by first | (with_reducible assumption) | assumption)
            have q4 : x3_1 < (a0.size : Int) := of_decide_eq_true (by first | (with_reducible assumption) | assumption)
            have hx4 := bt_at a0 x3_1
            replace p4 := eq_true p4
            replace q4 := eq_true q4
            have p6 : 0 ≤ (x3_1 : Int) := of_decide_eq_true (by first | (with_reducible assumption) | assumption)
            have q6 : x3_1 < (a0.size : Int) := of_decide_eq_true (by first | (with_reducible assumption) | assumption)
            have hx6 := bt_at a0 x3_1
            replace p6 := eq_true p6
            replace q6 := eq_true q6
            have p8 : 0 ≤ (x3_1 : Int) := of_decide_eq_true (by first | (with_reducible assumption) | assumption)
            have q8 : x3_1 < (a0.size : Int) := of_decide_eq_true (by first | (with_reducible assumption) | assumption)
            have hx8 := bt_at a0 x3_1
            replace p8 := eq_true p8
            replace q8 := eq_true q8
            have p11 : 0 ≤ (x3_1 : Int) := of_decide_eq_true (by first | (with_reducible assumption) | assumption)
            have q11 : x3_1 < (a0.size : Int) := of_decide_eq_true (by first | (with_reducible assumption) | assumption)
            have hx11 := bt_at a0 x3_1
            replace p11 := eq_true p11
            replace q11 := eq_true q11
            have p13 : 0 ≤ (x3_1 : Int) := of_decide_eq_true (by first | (with_reducible assumption) | assumption)
            have q13 : x3_1 < (a0.size : Int) := of_decide_eq_true (by first | (with_reducible assumption) | assumption)
            have hx13 := bt_at a0 x3_1
            replace p13 := eq_true p13
            replace q13 := eq_true q13
            have p15 : 0 ≤ (x3_1 : Int) := of_decide_eq_true (by first | (with_reducible assumption) | assumption)
            have q15 : x3_1 < (a0.size : Int) := of_decide_eq_true (by first | (with_reducible assumption) | assumption)
            have hx15 := bt_at a0 x3_1
            replace p15 := eq_true p15
            replace q15 := eq_true q15
            go_wp2
            go_roundg k1
            case measure => have := HK1.out; omega
            case rel => exact ⟨(wrap64 (x3_1 + 1)), (by first | rfl | (simp; done) | (simp [*]; done) | (simp [i64_w]; done)), H', ⟨by have := HK1.out; omega⟩, by repeat (first | exact Drawn0.refl _ | apply Drawn0.step)⟩
     ·
      rw [if_neg c5] at H
      have c5b0 : decide (97 ≤ (bt a0 x3_1)) = false := decide_eq_false c5
      clear c5
      by_cases c18 : ((bt a0 x3_1) = 95)
      ·
       rw [if_pos c18] at H
       have c18b0 : ((bt a0 x3_1) == 95) = true := beq_iff_eq.mpr c18
       have c18b1 : ((bt a0 x3_1) != 95) = false := bne_eq_false_iff_eq.mpr c18
       clear c18
       have H' := Aside0.mk H
       clear H
       have p4 : 0 ≤ (x3_1 : Int) := of_decide_eq_true (by first | (with_reducible assumption) | assumption)
       have q4 : x3_1 < (a0.size : Int) := of_decide_eq_true (by first | (with_reducible assumption) | assumption)
       have hx4 := bt_at a0 x3_1
       replace p4 := eq_true p4
       replace q4 := eq_true q4
       have p17 : 0 ≤ (x3_1 : Int) := of_decide_eq_true (by first | (with_reducible assumption) | assumption)
       have q17 : x3_1 < (a0.size : Int) := of_decide_eq_true (by first | (with_reducible assumption) | assumption)
       have hx17 := bt_at a0 x3_1
       replace p17 := eq_true p17
       replace q17 := eq_true q17
       go_wp2
       go_roundg k1
       case measure => have := HK1.out; omega
       case rel => exact ⟨(wrap64 (x3_1 + 1)), (by first | rfl | (simp; done) | (simp [*]; done) | (simp [i64_w]; done)), H', ⟨by have := HK1.out; omega⟩, by repeat (first | exact Drawn0.refl _ | apply Drawn0.step)⟩
      ·
       rw [if_neg c18] at H
       have c18b0 : ((bt a0 x3_1) == 95) = false := beq_eq_false_iff_ne.mpr c18
       have c18b1 : ((bt a0 x3_1) != 95) = true := bne_iff_ne.mpr c18
       by_cases c19 : x3_1 = 0
       ·
        rw [if_pos c19] at H
        have c19b0 : (x3_1 == 0) = true := beq_iff_eq.mpr c19
        have c19b1 : (x3_1 != 0) = false := bne_eq_false_iff_eq.mpr c19
        clear c19
        obtain rfl := Option.some.inj H
        have p4 : 0 ≤ (x3_1 : Int) := of_decide_eq_true (by first | (with_reducible assumption) | assumption)
        have q4 : x3_1 < (a0.size : Int) := of_decide_eq_true (by first | (with_reducible assumption) | assumption)
        have hx4 := bt_at a0 x3_1
        replace p4 := eq_true p4
        replace q4 := eq_true q4
        have p17 : 0 ≤ (x3_1 : Int) := of_decide_eq_true (by first | (with_reducible assumption) | assumption)
        have q17 : x3_1 < (a0.size : Int) := of_decide_eq_true (by first | (with_reducible assumption) | assumption)
        have hx17 := bt_at a0 x3_1
        replace p17 := eq_true p17
        replace q17 := eq_true q17
        go_wp2
        go_ret
        exact ⟨by first | rfl | (simp; done) | (simp [*]; done), by repeat (first | exact Drawn0.refl _ | apply Drawn0.step)⟩
       ·
        rw [if_neg c19] at H
        have c19b0 : (x3_1 == 0) = false := beq_eq_false_iff_ne.mpr c19
        have c19b1 : (x3_1 != 0) = true := bne_iff_ne.mpr c19
        by_cases c21 : (bt a0 x3_1) = 46
        ·
         rw [if_pos c21] at H
         have c21b0 : ((bt a0 x3_1) == 46) = true := beq_iff_eq.mpr c21
         have c21b1 : ((bt a0 x3_1) != 46) = false := bne_eq_false_iff_eq.mpr c21
         clear c21
         have H' := Aside0.mk H
         clear H
         have p4 : 0 ≤ (x3_1 : Int) := of_decide_eq_true (by first | (with_reducible assumption) | assumption)
         have q4 : x3_1 < (a0.size : Int) := of_decide_eq_true (by first | (with_reducible assumption) | assumption)
         have hx4 := bt_at a0 x3_1
         replace p4 := eq_true p4
         replace q4 := eq_true q4
         have p17 : 0 ≤ (x3_1 : Int) := of_decide_eq_true (by first | (with_reducible assumption) | assumption)
         have q17 : x3_1 < (a0.size : Int) := of_decide_eq_true (by first | (with_reducible assumption) | assumption)
         have hx17 := bt_at a0 x3_1
         replace p17 := eq_true p17
         replace q17 := eq_true q17
         have p20 : 0 ≤ (x3_1 : Int) := of_decide_eq_true (by first | (with_reducible assumption) | assumption)
         have q20 : x3_1 < (a0.size : Int) := of_decide_eq_true (by first | (with_reducible assumption) | assumption)
         have hx20 := bt_at a0 x3_1
         replace p20 := eq_true p20
         replace q20 := eq_true q20
         go_wp2
         go_roundg k1
         case measure => have := HK1.out; omega
         case rel => exact ⟨(wrap64 (x3_1 + 1)), (by first | rfl | (simp; done) | (simp [*]; done) | (simp [i64_w]; done)), H', ⟨by have := HK1.out; omega⟩, by repeat (first | exact Drawn0.refl _ | apply Drawn0.step)⟩
        ·
         rw [if_neg c21] at H
         have c21b0 : ((bt a0 x3_1) == 46) = false := beq_eq_false_iff_ne.mpr c21
         have c21b1 : ((bt a0 x3_1) != 46) = true := bne_iff_ne.mpr c21
         by_cases c23 : (bt a0 x3_1) < 48
         ·
          rw [if_pos c23] at H
          have c23b0 : decide ((bt a0 x3_1) < 48) = true := decide_eq_true c23
          clear c23
          obtain rfl := Option.some.inj H
          have p4 : 0 ≤ (x3_1 : Int) := of_decide_eq_true (by first | (with_reducible assumption) | assumption)
          have q4 : x3_1 < (a0.size : Int) := of_decide_eq_true (by first | (with_reducible assumption) | assumption)
          have hx4 := bt_at a0 x3_1
          replace p4 := eq_true p4
          replace q4 := eq_true q4
          have p17 : 0 ≤ (x3_1 : Int) := of_decide_eq_true (by first | (with_reducible assumption) | assumption)
          have q17 : x3_1 < (a0.size : Int) := of_decide_eq_true (by first | (with_reducible assumption) | assumption)
          have hx17 := bt_at a0 x3_1
          replace p17 := eq_true p17
          replace q17 := eq_true q17
          have p20 : 0 ≤ (x3_1 : Int) := of_decide_eq_true (by first | (with_reducible assumption) | assumption)
          have q20 : x3_1 < (a0.size : Int) := of_decide_eq_true (by first | (with_reducible assumption) | assumption)
          have hx20 := bt_at a0 x3_1
          replace p20 := eq_true p20
          replace q20 := eq_true q20
          have p22 : 0 ≤ (x3_1 : Int) := of_decide_eq_true (by first | (with_reducible assumption) | assumption)
          have q22 : x3_1 < (a0.size : Int) := of_decide_eq_true (by first | (with_reducible assumption) | assumption)
          have hx22 := bt_at a0 x3_1
          replace p22 := eq_true p22
          replace q22 := eq_true q22
          go_wp2
          go_ret
          exact ⟨by first | rfl | (simp; done) | (simp [*]; done), by repeat (first | exact Drawn0.refl _ | apply Drawn0.step)⟩
         ·
          rw [if_neg c23] at H
          have c23b0 : decide ((bt a0 x3_1) < 48) = false := decide_eq_false c23
          clear c23
          by_cases c25 : (bt a0 x3_1) > 57
          ·
           rw [if_pos c25] at H
           have c25b0 : decide (57 < (bt a0 x3_1)) = true := decide_eq_true c25
           clear c25
           obtain rfl := Option.some.inj H
           have p4 : 0 ≤ (x3_1 : Int) := of_decide_eq_true (by first | (with_reducible assumption) | assumption)
           have q4 : x3_1 < (a0.size : Int) := of_decide_eq_true (by first | (with_reducible assumption) | assumption)
           have hx4 := bt_at a0 x3_1
           replace p4 := eq_true p4
           replace q4 := eq_true q4
           have p17 : 0 ≤ (x3_1 : Int) := of_decide_eq_true (by first | (with_reducible assumption) | assumption)
           have q17 : x3_1 < (a0.size : Int) := of_decide_eq_true (by first | (with_reducible assumption) | assumption)
           have hx17 := bt_at a0 x3_1
           replace p17 := eq_true p17
           replace q17 := eq_true q17
           have p20 : 0 ≤ (x3_1 : Int) := of_decide_eq_true (by first | (with_reducible assumption) | assumption)
           have q20 : x3_1 < (a0.size : Int) := of_decide_eq_true (by first | (with_reducible assumption) | assumption)
           have hx20 := bt_at a0 x3_1
           replace p20 := eq_true p20
           replace q20 := eq_true q20
           have p22 : 0 ≤ (x3_1 : Int) := of_decide_eq_true (by first | (with_reducible assumption) | assumption)
           have q22 : x3_1 < (a0.size : Int) := of_decide_eq_true (by first | (with_reducible assumption) | assumption)
           have hx22 := bt_at a0 x3_1
           replace p22 := eq_true p22
           replace q22 := eq_true q22
           have p24 : 0 ≤ (x3_1 : Int) := of_decide_eq_true (by first | (with_reducible assumption) | assumption)
           have q24 : x3_1 < (a0.size : Int) := of_decide_eq_true (by first | (with_reducible assumption) | assumption)
           have hx24 := bt_at a0 x3_1
           replace p24 := eq_true p24
           replace q24 := eq_true q24
           go_wp2
           go_ret
           exact ⟨by first | rfl | (simp; done) | (simp [*]; done), by repeat (first | exact Drawn0.refl _ | apply Drawn0.step)⟩
          ·
           rw [if_neg c25] at H
           have c25b0 : decide (57 < (bt a0 x3_1)) = false := decide_eq_false c25
           clear c25
           have H' := Aside0.mk H
           clear H
           have p4 : 0 ≤ (x3_1 : Int) := of_decide_eq_true (by first | (with_reducible assumption) | assumption)
           have q4 : x3_1 < (a0.size : Int) := of_decide_eq_true (by first | (with_reducible assumption) | assumption)
           have hx4 := bt_at a0 x3_1
           replace p4 := eq_true p4
           replace q4 := eq_true q4
           have p17 : 0 ≤ (x3_1 : Int) := of_decide_eq_true (by first | (with_reducible assumption) | assumption)
           have q17 : x3_1 < (a0.size : Int) := of_decide_eq_true (by first | (with_reducible assumption) | assumption)
           have hx17 := bt_at a0 x3_1
           replace p17 := eq_true p17
           replace q17 := eq_true q17
           have p20 : 0 ≤ (x3_1 : Int) := of_decide_eq_true (by first | (with_reducible assumption) | assumption)
           have q20 : x3_1 < (a0.size : Int) := of_decide_eq_true (by first | (with_reducible assumption) | assumption)
           have hx20 := bt_at a0 x3_1
           replace p20 := eq_true p20
           replace q20 := eq_true q20
           have p22 : 0 ≤ (x3_1 : Int) := of_decide_eq_true (by first | (with_reducible assumption) | assumption)
           have q22 : x3_1 < (a0.size : Int) := of_decide_eq_true (by first | (with_reducible assumption) | assumption)
           have hx22 := bt_at a0 x3_1
           replace p22 := eq_true p22
           replace q22 := eq_true q22
           have p24 : 0 ≤ (x3_1 : Int) := of_decide_eq_true (by first | (with_reducible assumption) | assumption)
           have q24 : x3_1 < (a0.size : Int) := of_decide_eq_true (by first | (with_reducible assumption) | assumption)
           have hx24 := bt_at a0 x3_1
           replace p24 := eq_true p24
           replace q24 := eq_true q24
           go_wp2
           go_roundg k1
           case measure => have := HK1.out; omega
           case rel => exact ⟨(wrap64 (x3_1 + 1)), (by first | rfl | (simp; done) | (simp [*]; done) | (simp [i64_w]; done)), H', ⟨by have := HK1.out; omega⟩, by repeat (first | exact Drawn0.refl _ | apply Drawn0.step)⟩
    ·
     rw [if_neg c3] at H
     exact absurd H (by simp)
   ·
    rw [if_neg c2] at H
    have c2b0 : decide (x3_1 < (a0.size : Int)) = false := decide_eq_false c2
    clear c2
    by_cases c26 : (a0.size : Int) ≥ 1
    ·
     rw [if_pos c26] at H
     have c26b0 : decide (1 ≤ (a0.size : Int)) = true := decide_eq_true c26
     have c26b1 : decide (1 ≤ a0.size) = true := decide_eq_true (by omega)
     clear c26
     obtain rfl := Option.some.inj H
     go_wp2
     go_ret
     exact ⟨by first | rfl | (simp; done) | (simp [*]; done), by repeat (first | exact Drawn0.refl _ | apply Drawn0.step)⟩
    ·
     rw [if_neg c26] at H
     have c26b0 : decide (1 ≤ (a0.size : Int)) = false := decide_eq_false c26
     have c26b1 : decide (1 ≤ a0.size) = false := decide_eq_false (by omega)
     clear c26
     obtain rfl := Option.some.inj H
     go_wp2
     go_ret
     exact ⟨by first | rfl | (simp; done) | (simp [*]; done), by repeat (first | exact Drawn0.refl _ | apply Drawn0.step)⟩


/-! ### petrinetref04_Split: function 37 -/
def petrinetref04_Split.l0 : Nat → ByteArray → Int → List ByteArray → Int → Int → Option (List ByteArray)
 | 0, _, _, _, _, _ => none
 | k + 1, x0, x1, x5, x6, x7 => if x7 ≤ (x0.size : Int) then (if x7 = (x0.size : Int) then (if 0 ≤ x6 then (if x6 ≤ x7 then (if x5.length < 8796093022208 then (petrinetref04_Split.l0 k x0 x1 (x5 ++ [x0.extract (x6 : Int).toNat (x7 : Int).toNat]) (wrap64 (x7 + 1)) (wrap64 (x7 + 1))) else (none)) else (none)) else (none)) else (if 0 ≤ x7 then (if x7 < (x0.size : Int) then (if (bt x0 x7) = x1 then (if 0 ≤ x6 then (if x6 ≤ x7 then (if x5.length < 8796093022208 then (petrinetref04_Split.l0 k x0 x1 (x5 ++ [x0.extract (x6 : Int).toNat (x7 : Int).toNat]) (wrap64 (x7 + 1)) (wrap64 (x7 + 1))) else (none)) else (none)) else (none)) else (petrinetref04_Split.l0 k x0 x1 x5 x6 (wrap64 (x7 + 1)))) else (none)) else (none))) else (some x5)
def petrinetref04_Split.f (k : Nat) (a0 : ByteArray) (a1 : Int) : Option (List ByteArray) := petrinetref04_Split.l0 k a0 a1 ([] : List ByteArray) 0 0
theorem petrinetref04_Split.mono_l : ∀ k, (∀ y0 y1 y2 y3 y4, LeO (petrinetref04_Split.l0 k y0 y1 y2 y3 y4) (petrinetref04_Split.l0 (k + 1) y0 y1 y2 y3 y4))
 | 0 => fun _ _ _ _ _ r h => by simp [petrinetref04_Split.l0] at h
 | k + 1 => by
  have ih0 := petrinetref04_Split.mono_l k
  ·
   intro y0 y1 y2 y3 y4
   unfold petrinetref04_Split.l0
   repeat' first
   | (with_reducible exact ih0 _ _ _ _ _)
   | (with_reducible exact LeO.refl _)
   | (with_reducible exact LeO.none _)
   | (with_reducible refine LeO.ite ?_ ?_)
   | (with_reducible refine LeO.bind ?_ (fun _ => ?_))
   | exact ih0 _ _ _ _ _
   | exact LeO.none _
   | refine LeO.ite ?_ ?_
   | refine LeO.bind ?_ (fun _ => ?_)
theorem petrinetref04_Split.mono : ∀ a0 a1 k, LeO (petrinetref04_Split.f k a0 a1) (petrinetref04_Split.f (k + 1) a0 a1) := by
 intro a0 a1 k
 have ih0 := petrinetref04_Split.mono_l k
 unfold petrinetref04_Split.f
 repeat' first
   | (with_reducible exact ih0 _ _ _ _ _)
   | (with_reducible exact LeO.refl _)
   | (with_reducible exact LeO.none _)
   | (with_reducible refine LeO.ite ?_ ?_)
   | (with_reducible refine LeO.bind ?_ (fun _ => ?_))
   | exact ih0 _ _ _ _ _
   | exact LeO.none _
   | refine LeO.ite ?_ ?_
   | refine LeO.bind ?_ (fun _ => ?_)

/-! ### petrinetref48_Words: function 38 -/
def petrinetref48_Words.l0 : Nat → List ByteArray → List ByteArray → Int → Option (List ByteArray)
 | 0, _, _, _ => none
 | k + 1, x3, x4, x5 => if x5 < (x3.length : Int) then (if 0 ≤ x5 then (if (rdOf ByteArray.empty x3 x5).toList = ([] : List UInt8) then (petrinetref48_Words.l0 k x3 x4 (wrap64 (x5 + 1))) else (if x4.length < 8796093022208 then (petrinetref48_Words.l0 k x3 (x4 ++ [rdOf ByteArray.empty x3 x5]) (wrap64 (x5 + 1))) else (none))) else (none)) else (some x4)
def petrinetref48_Words.f (k : Nat) (a0 : ByteArray) : Option (List ByteArray) := (petrinetref04_Split.f k a0 32).bind fun t123 => (petrinetref48_Words.l0 k t123 ([] : List ByteArray) 0)
theorem petrinetref48_Words.mono_l : ∀ k, (∀ y0 y1 y2, LeO (petrinetref48_Words.l0 k y0 y1 y2) (petrinetref48_Words.l0 (k + 1) y0 y1 y2))
 | 0 => fun _ _ _ r h => by simp [petrinetref48_Words.l0] at h
 | k + 1 => by
  have ih0 := petrinetref48_Words.mono_l k
  ·
   intro y0 y1 y2
   unfold petrinetref48_Words.l0
   repeat' first
   | (with_reducible exact ih0 _ _ _)
   | (with_reducible exact petrinetref04_Split.mono _ _ _)
   | (with_reducible exact LeO.refl _)
   | (with_reducible exact LeO.none _)
   | (with_reducible refine LeO.ite ?_ ?_)
   | (with_reducible refine LeO.bind ?_ (fun _ => ?_))
   | exact ih0 _ _ _
   | exact petrinetref04_Split.mono _ _ _
   | exact LeO.none _
   | refine LeO.ite ?_ ?_
   | refine LeO.bind ?_ (fun _ => ?_)
theorem petrinetref48_Words.mono : ∀ a0 k, LeO (petrinetref48_Words.f k a0) (petrinetref48_Words.f (k + 1) a0) := by
 intro a0 k
 have ih0 := petrinetref48_Words.mono_l k
 unfold petrinetref48_Words.f
 repeat' first
   | (with_reducible exact ih0 _ _ _)
   | (with_reducible exact petrinetref04_Split.mono _ _ _)
   | (with_reducible exact LeO.refl _)
   | (with_reducible exact LeO.none _)
   | (with_reducible refine LeO.ite ?_ ?_)
   | (with_reducible refine LeO.bind ?_ (fun _ => ?_))
   | exact ih0 _ _ _
   | exact petrinetref04_Split.mono _ _ _
   | exact LeO.none _
   | refine LeO.ite ?_ ?_
   | refine LeO.bind ?_ (fun _ => ?_)


attribute [local go_sem high] eqA26

/-! ### petrinetref48_Parse: function 11 -/
mutual
def petrinetref48_Parse.l0 : Nat → List ByteArray → List (List ByteArray) → Int → Option ((List (List ByteArray)) × Int × Int)
 | 0, _, _, _ => none
 | k + 1, x4, x5, x6 => if x6 < (x4.length : Int) then (if 0 ≤ x6 then ((petrinetref48_Words.f k (rdOf ByteArray.empty x4 x6)).bind fun t136 => (if (t136.length : Int) = 0 then (petrinetref48_Parse.l0 k x4 x5 (wrap64 (x6 + 1))) else (if (t136.length : Int) = 1 then (if 0 < (t136.length : Int) then (petrinetref48_Parse.j1 k x4 x5 x6 t136 ((rdOf ByteArray.empty t136 0).toList == ([45] : List UInt8))) else (none)) else (petrinetref48_Parse.j1 k x4 x5 x6 t136 false)))) else (none)) else (some (x5, 0, 0))
def petrinetref48_Parse.j1 : Nat → List ByteArray → List (List ByteArray) → Int → List ByteArray → Bool → Option ((List (List ByteArray)) × Int × Int)
 | 0, _, _, _, _, _ => none
 | k + 1, x4, x5, x6, x7, x37 => if x37 = true then (petrinetref48_Parse.j2 k x4 x5 x6 ([] : List ByteArray)) else (petrinetref48_Parse.j2 k x4 x5 x6 x7)
def petrinetref48_Parse.j2 : Nat → List ByteArray → List (List ByteArray) → Int → List ByteArray → Option ((List (List ByteArray)) × Int × Int)
 | 0, _, _, _, _ => none
 | k + 1, x4, x5, x6, x7 => petrinetref48_Parse.l1 k x4 x5 x6 x7 0
def petrinetref48_Parse.l1 : Nat → List ByteArray → List (List ByteArray) → Int → List ByteArray → Int → Option ((List (List ByteArray)) × Int × Int)
 | 0, _, _, _, _, _ => none
 | k + 1, x4, x5, x6, x7, x8 => if x8 < (x7.length : Int) then (if 0 ≤ x8 then ((petrinetref48_Name.f k (rdOf ByteArray.empty x7 x8)).bind fun t141 => (if t141 = true then (petrinetref48_Parse.l1 k x4 x5 x6 x7 (wrap64 (x8 + 1))) else (some (([] : List (List ByteArray)), 11, wrap64 (x6 + 1))))) else (none)) else (if (x7.length : Int) > 64 then (some (([] : List (List ByteArray)), 2, wrap64 (x6 + 1))) else (if (x5.length : Int) = 64 then (some (([] : List (List ByteArray)), 2, wrap64 (x6 + 1))) else (if x5.length < 5864062014805 then (petrinetref48_Parse.l0 k x4 (x5 ++ [x7]) (wrap64 (x6 + 1))) else (none))))
end
def petrinetref48_Parse.f (k : Nat) (a0 : ByteArray) : Option ((List (List ByteArray)) × Int × Int) := if (a0.size : Int) > 65536 then (some (([] : List (List ByteArray)), 2, 0)) else ((petrinetref04_Split.f k a0 10).bind fun t132 => (petrinetref48_Parse.l0 k t132 ([] : List (List ByteArray)) 0))
theorem petrinetref48_Parse.mono_l : ∀ k, (∀ y0 y1 y2, LeO (petrinetref48_Parse.l0 k y0 y1 y2) (petrinetref48_Parse.l0 (k + 1) y0 y1 y2)) ∧ (∀ y0 y1 y2 y3 y4, LeO (petrinetref48_Parse.j1 k y0 y1 y2 y3 y4) (petrinetref48_Parse.j1 (k + 1) y0 y1 y2 y3 y4)) ∧ (∀ y0 y1 y2 y3, LeO (petrinetref48_Parse.j2 k y0 y1 y2 y3) (petrinetref48_Parse.j2 (k + 1) y0 y1 y2 y3)) ∧ (∀ y0 y1 y2 y3 y4, LeO (petrinetref48_Parse.l1 k y0 y1 y2 y3 y4) (petrinetref48_Parse.l1 (k + 1) y0 y1 y2 y3 y4))
 | 0 => ⟨fun _ _ _ r h => by simp [petrinetref48_Parse.l0] at h, fun _ _ _ _ _ r h => by simp [petrinetref48_Parse.j1] at h, fun _ _ _ _ r h => by simp [petrinetref48_Parse.j2] at h, fun _ _ _ _ _ r h => by simp [petrinetref48_Parse.l1] at h⟩
 | k + 1 => by
  obtain ⟨ih0, ih1, ih2, ih3⟩ := petrinetref48_Parse.mono_l k
  refine ⟨?_, ?_, ?_, ?_⟩
  ·
   intro y0 y1 y2
   unfold petrinetref48_Parse.l0
   repeat' first
   | (with_reducible exact ih0 _ _ _)
   | (with_reducible exact ih1 _ _ _ _ _)
   | (with_reducible exact ih2 _ _ _ _)
   | (with_reducible exact ih3 _ _ _ _ _)
   | (with_reducible exact petrinetref04_Split.mono _ _ _)
   | (with_reducible exact petrinetref48_Name.mono _ _)
   | (with_reducible exact petrinetref48_Words.mono _ _)
   | (with_reducible exact LeO.refl _)
   | (with_reducible exact LeO.none _)
   | (with_reducible refine LeO.ite ?_ ?_)
   | (with_reducible refine LeO.bind ?_ (fun _ => ?_))
   | exact ih0 _ _ _
   | exact ih1 _ _ _ _ _
   | exact ih2 _ _ _ _
   | exact ih3 _ _ _ _ _
   | exact petrinetref04_Split.mono _ _ _
   | exact petrinetref48_Name.mono _ _
   | exact petrinetref48_Words.mono _ _
   | exact LeO.none _
   | refine LeO.ite ?_ ?_
   | refine LeO.bind ?_ (fun _ => ?_)
  ·
   intro y0 y1 y2 y3 y4
   unfold petrinetref48_Parse.j1
   repeat' first
   | (with_reducible exact ih0 _ _ _)
   | (with_reducible exact ih1 _ _ _ _ _)
   | (with_reducible exact ih2 _ _ _ _)
   | (with_reducible exact ih3 _ _ _ _ _)
   | (with_reducible exact petrinetref04_Split.mono _ _ _)
   | (with_reducible exact petrinetref48_Name.mono _ _)
   | (with_reducible exact petrinetref48_Words.mono _ _)
   | (with_reducible exact LeO.refl _)
   | (with_reducible exact LeO.none _)
   | (with_reducible refine LeO.ite ?_ ?_)
   | (with_reducible refine LeO.bind ?_ (fun _ => ?_))
   | exact ih0 _ _ _
   | exact ih1 _ _ _ _ _
   | exact ih2 _ _ _ _
   | exact ih3 _ _ _ _ _
   | exact petrinetref04_Split.mono _ _ _
   | exact petrinetref48_Name.mono _ _
   | exact petrinetref48_Words.mono _ _
   | exact LeO.none _
   | refine LeO.ite ?_ ?_
   | refine LeO.bind ?_ (fun _ => ?_)
  ·
   intro y0 y1 y2 y3
   unfold petrinetref48_Parse.j2
   repeat' first
   | (with_reducible exact ih0 _ _ _)
   | (with_reducible exact ih1 _ _ _ _ _)
   | (with_reducible exact ih2 _ _ _ _)
   | (with_reducible exact ih3 _ _ _ _ _)
   | (with_reducible exact petrinetref04_Split.mono _ _ _)
   | (with_reducible exact petrinetref48_Name.mono _ _)
   | (with_reducible exact petrinetref48_Words.mono _ _)
   | (with_reducible exact LeO.refl _)
   | (with_reducible exact LeO.none _)
   | (with_reducible refine LeO.ite ?_ ?_)
   | (with_reducible refine LeO.bind ?_ (fun _ => ?_))
   | exact ih0 _ _ _
   | exact ih1 _ _ _ _ _
   | exact ih2 _ _ _ _
   | exact ih3 _ _ _ _ _
   | exact petrinetref04_Split.mono _ _ _
   | exact petrinetref48_Name.mono _ _
   | exact petrinetref48_Words.mono _ _
   | exact LeO.none _
   | refine LeO.ite ?_ ?_
   | refine LeO.bind ?_ (fun _ => ?_)
  ·
   intro y0 y1 y2 y3 y4
   unfold petrinetref48_Parse.l1
   repeat' first
   | (with_reducible exact ih0 _ _ _)
   | (with_reducible exact ih1 _ _ _ _ _)
   | (with_reducible exact ih2 _ _ _ _)
   | (with_reducible exact ih3 _ _ _ _ _)
   | (with_reducible exact petrinetref04_Split.mono _ _ _)
   | (with_reducible exact petrinetref48_Name.mono _ _)
   | (with_reducible exact petrinetref48_Words.mono _ _)
   | (with_reducible exact LeO.refl _)
   | (with_reducible exact LeO.none _)
   | (with_reducible refine LeO.ite ?_ ?_)
   | (with_reducible refine LeO.bind ?_ (fun _ => ?_))
   | exact ih0 _ _ _
   | exact ih1 _ _ _ _ _
   | exact ih2 _ _ _ _
   | exact ih3 _ _ _ _ _
   | exact petrinetref04_Split.mono _ _ _
   | exact petrinetref48_Name.mono _ _
   | exact petrinetref48_Words.mono _ _
   | exact LeO.none _
   | refine LeO.ite ?_ ?_
   | refine LeO.bind ?_ (fun _ => ?_)
theorem petrinetref48_Parse.mono : ∀ a0 k, LeO (petrinetref48_Parse.f k a0) (petrinetref48_Parse.f (k + 1) a0) := by
 intro a0 k
 obtain ⟨ih0, ih1, ih2, ih3⟩ := petrinetref48_Parse.mono_l k
 unfold petrinetref48_Parse.f
 repeat' first
   | (with_reducible exact ih0 _ _ _)
   | (with_reducible exact ih1 _ _ _ _ _)
   | (with_reducible exact ih2 _ _ _ _)
   | (with_reducible exact ih3 _ _ _ _ _)
   | (with_reducible exact petrinetref04_Split.mono _ _ _)
   | (with_reducible exact petrinetref48_Name.mono _ _)
   | (with_reducible exact petrinetref48_Words.mono _ _)
   | (with_reducible exact LeO.refl _)
   | (with_reducible exact LeO.none _)
   | (with_reducible refine LeO.ite ?_ ?_)
   | (with_reducible refine LeO.bind ?_ (fun _ => ?_))
   | exact ih0 _ _ _
   | exact ih1 _ _ _ _ _
   | exact ih2 _ _ _ _
   | exact ih3 _ _ _ _ _
   | exact petrinetref04_Split.mono _ _ _
   | exact petrinetref48_Name.mono _ _
   | exact petrinetref48_Words.mono _ _
   | exact LeO.none _
   | refine LeO.ite ?_ ?_
   | refine LeO.bind ?_ (fun _ => ?_)

/-! ### petrinetref48_Same: function 29 -/
def petrinetref48_Same.l0 : Nat → List ByteArray → List ByteArray → Int → Option (Bool)
 | 0, _, _, _ => none
 | k + 1, x0, x1, x5 => if x5 < (x0.length : Int) then (if 0 ≤ x5 then (if x5 < (x1.length : Int) then (if (rdOf ByteArray.empty x0 x5).toList = (rdOf ByteArray.empty x1 x5).toList then (petrinetref48_Same.l0 k x0 x1 (wrap64 (x5 + 1))) else (some false)) else (none)) else (none)) else (some true)
def petrinetref48_Same.f (k : Nat) (l0 : List ByteArray) (l1 : List ByteArray) : Option (Bool) := if (l0.length : Int) = (l1.length : Int) then (petrinetref48_Same.l0 k l0 l1 0) else (some false)
theorem petrinetref48_Same.mono_l : ∀ k, (∀ y0 y1 y2, LeO (petrinetref48_Same.l0 k y0 y1 y2) (petrinetref48_Same.l0 (k + 1) y0 y1 y2))
 | 0 => fun _ _ _ r h => by simp [petrinetref48_Same.l0] at h
 | k + 1 => by
  have ih0 := petrinetref48_Same.mono_l k
  ·
   intro y0 y1 y2
   unfold petrinetref48_Same.l0
   repeat' first
   | (with_reducible exact ih0 _ _ _)
   | (with_reducible exact LeO.refl _)
   | (with_reducible exact LeO.none _)
   | (with_reducible refine LeO.ite ?_ ?_)
   | (with_reducible refine LeO.bind ?_ (fun _ => ?_))
   | exact ih0 _ _ _
   | exact LeO.none _
   | refine LeO.ite ?_ ?_
   | refine LeO.bind ?_ (fun _ => ?_)
theorem petrinetref48_Same.mono : ∀ a0 a1 k, LeO (petrinetref48_Same.f k a0 a1) (petrinetref48_Same.f (k + 1) a0 a1) := by
 intro a0 a1 k
 have ih0 := petrinetref48_Same.mono_l k
 unfold petrinetref48_Same.f
 repeat' first
   | (with_reducible exact ih0 _ _ _)
   | (with_reducible exact LeO.refl _)
   | (with_reducible exact LeO.none _)
   | (with_reducible refine LeO.ite ?_ ?_)
   | (with_reducible refine LeO.bind ?_ (fun _ => ?_))
   | exact ih0 _ _ _
   | exact LeO.none _
   | refine LeO.ite ?_ ?_
   | refine LeO.bind ?_ (fun _ => ?_)
set_option maxHeartbeats 8000000 in
set_option maxRecDepth 100000 in
theorem petrinetref48_Same.calls (k : Nat) (A0 : Option Addr) (c0 : Nat) (l0 : List ByteArray) (A1 : Option Addr) (c1 : Nat) (l1 : List ByteArray) (r : Bool) (w : World) (hr0 : Kd.C Kd.string w A0 l0.length l0) (hc0 : l0.length ≤ c0) (hr1 : Kd.C Kd.string w A1 l1.length l1) (hc1 : l1.length ≤ c1) (h : petrinetref48_Same.f k l0 l1 = some r) :
  Calls Try.prog 29 #[.slice A0 l0.length c0, .slice A1 l1.length c1] w fun e w' => e = .returned (.bool r) ∧ Drawn0 w w' := by
 have HR0 := Aside0.mk hr0
 have HC0 := Aside0.mk hc0
 clear hr0 hc0
 have HR1 := Aside0.mk hr1
 have HC1 := Aside0.mk hc1
 clear hr1 hc1
 have H : (if (l0.length : Int) = (l1.length : Int) then (petrinetref48_Same.l0 k l0 l1 0) else (some false)) = some r := h
 clear h
 by_cases c3 : (l0.length : Int) = (l1.length : Int)
 ·
  rw [if_pos c3] at H
  have c3b0 : ((l0.length : Int) == (l1.length : Int)) = true := beq_iff_eq.mpr c3
  have c3b1 : ((l0.length : Int) != (l1.length : Int)) = false := bne_eq_false_iff_eq.mpr c3
  have c3b2 : (l0.length == l1.length) = true := by first | simpa using c3 | (simp at c3 ⊢; omega)
  clear c3
  have H' := Aside0.mk H
  clear H
  go_enter Try.func29, Try.ntmps29
  go_wp2
  repeat (go_quiet (fail); try go_wp2)
  go_loopg [5] k (fun kq v5 w' => ∃ (x5_1 : Int), v5 = .int .i64 x5_1 ∧ Aside0 (petrinetref48_Same.l0 kq l0 l1 x5_1 = some r) ∧ Aside0 (kq ≤ k) ∧ Drawn0 w w')
  case atStart => exact ⟨(0), (by first | rfl | (simp; done) | (simp [*]; done) | (simp [i64_w]; done)), H', ⟨Nat.le_refl _⟩, by repeat (first | exact Drawn0.refl _ | apply Drawn0.step)⟩
  case round =>
   clear H'
   try clear c1
   try clear c2
   try clear p2
   try clear c3
   try clear c3b0
   try clear c3b1
   try clear c3b2
   obtain ⟨x5_1, rfl, HA, HK1, ⟨m1, rfl⟩⟩ := hrel
   cases gk with
   | zero => exact absurd HA.out (by simp [petrinetref48_Same.l0])
   | succ k1 =>
    have H := HA.out
    clear HA
    simp only [petrinetref48_Same.l0] at H
    by_cases c4 : x5_1 < (l0.length : Int)
    ·
     rw [if_pos c4] at H
     have c4b0 : decide (x5_1 < (l0.length : Int)) = true := decide_eq_true c4
     clear c4
     by_cases c5 : 0 ≤ x5_1
     ·
      rw [if_pos c5] at H
      have c5b0 : decide (0 ≤ x5_1) = true := decide_eq_true c5
      clear c5
      by_cases c6 : x5_1 < (l1.length : Int)
      ·
       rw [if_pos c6] at H
       have c6b0 : decide (x5_1 < (l1.length : Int)) = true := decide_eq_true c6
       clear c6
       by_cases c7 : (rdOf ByteArray.empty l0 x5_1).toList = (rdOf ByteArray.empty l1 x5_1).toList
       ·
        rw [if_pos c7] at H
        have c7b0 : ((rdOf ByteArray.empty l0 x5_1).toList == (rdOf ByteArray.empty l1 x5_1).toList) = true := beq_iff_eq.mpr c7
        have c7b1 : ((rdOf ByteArray.empty l0 x5_1).toList != (rdOf ByteArray.empty l1 x5_1).toList) = false := bne_eq_false_iff_eq.mpr c7
        clear c7
        have H' := Aside0.mk H
        clear H
        have p145 : 0 ≤ (x5_1 : Int) := of_decide_eq_true (by first | (with_reducible assumption) | assumption)
        have q145 : x5_1 < (l0.length : Int) := of_decide_eq_true (by first | (with_reducible assumption) | assumption)
        obtain ⟨ad145, e145, hx145_0⟩ := Kd.at_string HR0.out x5_1 p145 q145
        cases e145
        replace p145 := eq_true p145
        replace q145 := eq_true q145
        have p146 : 0 ≤ (x5_1 : Int) := of_decide_eq_true (by first | (with_reducible assumption) | assumption)
        have q146 : x5_1 < (l1.length : Int) := of_decide_eq_true (by first | (with_reducible assumption) | assumption)
        obtain ⟨ad146, e146, hx146_0⟩ := Kd.at_string HR1.out x5_1 p146 q146
        cases e146
        replace p146 := eq_true p146
        replace q146 := eq_true q146
        go_wp2
        repeat (go_quiet (fail); try go_wp2)
        go_roundg k1
        case measure => have := HK1.out; omega
        case rel => exact ⟨(wrap64 (x5_1 + 1)), (by first | rfl | (simp; done) | (simp [*]; done) | (simp [i64_w]; done)), H', ⟨by have := HK1.out; omega⟩, by repeat (first | exact Drawn0.refl _ | apply Drawn0.step)⟩
       ·
        rw [if_neg c7] at H
        have c7b0 : ((rdOf ByteArray.empty l0 x5_1).toList == (rdOf ByteArray.empty l1 x5_1).toList) = false := beq_eq_false_iff_ne.mpr c7
        have c7b1 : ((rdOf ByteArray.empty l0 x5_1).toList != (rdOf ByteArray.empty l1 x5_1).toList) = true := bne_iff_ne.mpr c7
        obtain rfl := Option.some.inj H
        have p145 : 0 ≤ (x5_1 : Int) := of_decide_eq_true (by first | (with_reducible assumption) | assumption)
        have q145 : x5_1 < (l0.length : Int) := of_decide_eq_true (by first | (with_reducible assumption) | assumption)
        obtain ⟨ad145, e145, hx145_0⟩ := Kd.at_string HR0.out x5_1 p145 q145
        cases e145
        replace p145 := eq_true p145
        replace q145 := eq_true q145
        have p146 : 0 ≤ (x5_1 : Int) := of_decide_eq_true (by first | (with_reducible assumption) | assumption)
        have q146 : x5_1 < (l1.length : Int) := of_decide_eq_true (by first | (with_reducible assumption) | assumption)
        obtain ⟨ad146, e146, hx146_0⟩ := Kd.at_string HR1.out x5_1 p146 q146
        cases e146
        replace p146 := eq_true p146
        replace q146 := eq_true q146
        go_wp2
        repeat (go_quiet (fail); try go_wp2)
        go_ret
        exact ⟨by first | rfl | (simp; done) | (simp [*]; done), by repeat (first | exact Drawn0.refl _ | apply Drawn0.step)⟩
      ·
       rw [if_neg c6] at H
       exact absurd H (by simp)
     ·
      rw [if_neg c5] at H
      exact absurd H (by simp)
    ·
     rw [if_neg c4] at H
     have c4b0 : decide (x5_1 < (l0.length : Int)) = false := decide_eq_false c4
     clear c4
     obtain rfl := Option.some.inj H
     go_wp2
     repeat (go_quiet (fail); try go_wp2)
     go_ret
     exact ⟨by first | rfl | (simp; done) | (simp [*]; done), by repeat (first | exact Drawn0.refl _ | apply Drawn0.step)⟩
 ·
  rw [if_neg c3] at H
  have c3b0 : ((l0.length : Int) == (l1.length : Int)) = false := beq_eq_false_iff_ne.mpr c3
  have c3b1 : ((l0.length : Int) != (l1.length : Int)) = true := bne_iff_ne.mpr c3
  have c3b2 : (l0.length == l1.length) = false := by first | simpa using c3 | (simp at c3 ⊢; omega)
  obtain rfl := Option.some.inj H
  go_enter Try.func29, Try.ntmps29
  go_wp2
  repeat (go_quiet (fail); try go_wp2)
  go_ret
  exact ⟨by first | rfl | (simp; done) | (simp [*]; done), by repeat (first | exact Drawn0.refl _ | apply Drawn0.step)⟩


/-! ### petrinetref48_Equal: function 12 -/
def petrinetref48_Equal.l0 : Nat → List (List ByteArray) → List (List ByteArray) → Int → Option (Bool)
 | 0, _, _, _ => none
 | k + 1, x0, x1, x5 => if x5 < (x0.length : Int) then (if 0 ≤ x5 then (if x5 < (x1.length : Int) then ((petrinetref48_Same.f k (rd_L1 x0 x5) (rd_L1 x1 x5)).bind fun t149 => (if t149 = true then (petrinetref48_Equal.l0 k x0 x1 (wrap64 (x5 + 1))) else (some false))) else (none)) else (none)) else (some true)
def petrinetref48_Equal.f (k : Nat) (l0 : List (List ByteArray)) (l1 : List (List ByteArray)) : Option (Bool) := if (l0.length : Int) = (l1.length : Int) then (petrinetref48_Equal.l0 k l0 l1 0) else (some false)
theorem petrinetref48_Equal.mono_l : ∀ k, (∀ y0 y1 y2, LeO (petrinetref48_Equal.l0 k y0 y1 y2) (petrinetref48_Equal.l0 (k + 1) y0 y1 y2))
 | 0 => fun _ _ _ r h => by simp [petrinetref48_Equal.l0] at h
 | k + 1 => by
  have ih0 := petrinetref48_Equal.mono_l k
  ·
   intro y0 y1 y2
   unfold petrinetref48_Equal.l0
   repeat' first
   | (with_reducible exact ih0 _ _ _)
   | (with_reducible exact petrinetref48_Same.mono _ _ _)
   | (with_reducible exact LeO.refl _)
   | (with_reducible exact LeO.none _)
   | (with_reducible refine LeO.ite ?_ ?_)
   | (with_reducible refine LeO.bind ?_ (fun _ => ?_))
   | exact ih0 _ _ _
   | exact petrinetref48_Same.mono _ _ _
   | exact LeO.none _
   | refine LeO.ite ?_ ?_
   | refine LeO.bind ?_ (fun _ => ?_)
theorem petrinetref48_Equal.mono : ∀ a0 a1 k, LeO (petrinetref48_Equal.f k a0 a1) (petrinetref48_Equal.f (k + 1) a0 a1) := by
 intro a0 a1 k
 have ih0 := petrinetref48_Equal.mono_l k
 unfold petrinetref48_Equal.f
 repeat' first
   | (with_reducible exact ih0 _ _ _)
   | (with_reducible exact petrinetref48_Same.mono _ _ _)
   | (with_reducible exact LeO.refl _)
   | (with_reducible exact LeO.none _)
   | (with_reducible refine LeO.ite ?_ ?_)
   | (with_reducible refine LeO.bind ?_ (fun _ => ?_))
   | exact ih0 _ _ _
   | exact petrinetref48_Same.mono _ _ _
   | exact LeO.none _
   | refine LeO.ite ?_ ?_
   | refine LeO.bind ?_ (fun _ => ?_)
set_option maxHeartbeats 8000000 in
set_option maxRecDepth 100000 in
theorem petrinetref48_Equal.calls (k : Nat) (A0 : Option Addr) (c0 : Nat) (l0 : List (List ByteArray)) (A1 : Option Addr) (c1 : Nat) (l1 : List (List ByteArray)) (r : Bool) (w : World) (hr0 : Kd.C (Kd.slice 9 Kd.string) w A0 l0.length l0) (hc0 : l0.length ≤ c0) (hr1 : Kd.C (Kd.slice 9 Kd.string) w A1 l1.length l1) (hc1 : l1.length ≤ c1) (h : petrinetref48_Equal.f k l0 l1 = some r) :
  Calls Try.prog 12 #[.slice A0 l0.length c0, .slice A1 l1.length c1] w fun e w' => e = .returned (.bool r) ∧ Drawn0 w w' := by
 have HR0 := Aside0.mk hr0
 have HC0 := Aside0.mk hc0
 clear hr0 hc0
 have HR1 := Aside0.mk hr1
 have HC1 := Aside0.mk hc1
 clear hr1 hc1
 have H : (if (l0.length : Int) = (l1.length : Int) then (petrinetref48_Equal.l0 k l0 l1 0) else (some false)) = some r := h
 clear h
 by_cases c3 : (l0.length : Int) = (l1.length : Int)
 ·
  rw [if_pos c3] at H
  have c3b0 : ((l0.length : Int) == (l1.length : Int)) = true := beq_iff_eq.mpr c3
  have c3b1 : ((l0.length : Int) != (l1.length : Int)) = false := bne_eq_false_iff_eq.mpr c3
  have c3b2 : (l0.length == l1.length) = true := by first | simpa using c3 | (simp at c3 ⊢; omega)
  clear c3
  have H' := Aside0.mk H
  clear H
  go_enter Try.func12, Try.ntmps12
  go_wp2
  repeat (go_quiet (fail); try go_wp2)
  go_loopg [5] k (fun kq v5 w' => ∃ (x5_1 : Int), v5 = .int .i64 x5_1 ∧ Aside0 (petrinetref48_Equal.l0 kq l0 l1 x5_1 = some r) ∧ Aside0 (kq ≤ k) ∧ Drawn0 w w')
  case atStart => exact ⟨(0), (by first | rfl | (simp; done) | (simp [*]; done) | (simp [i64_w]; done)), H', ⟨Nat.le_refl _⟩, by repeat (first | exact Drawn0.refl _ | apply Drawn0.step)⟩
  case round =>
   clear H'
   try clear c1
   try clear p2
   try clear c3
   try clear c3b0
   try clear c3b1
   try clear c3b2
   obtain ⟨x5_1, rfl, HA, HK1, ⟨m1, rfl⟩⟩ := hrel
   cases gk with
   | zero => exact absurd HA.out (by simp [petrinetref48_Equal.l0])
   | succ k1 =>
    have H := HA.out
    clear HA
    simp only [petrinetref48_Equal.l0] at H
    by_cases c4 : x5_1 < (l0.length : Int)
    ·
     rw [if_pos c4] at H
     have c4b0 : decide (x5_1 < (l0.length : Int)) = true := decide_eq_true c4
     clear c4
     by_cases c5 : 0 ≤ x5_1
     ·
      rw [if_pos c5] at H
      have c5b0 : decide (0 ≤ x5_1) = true := decide_eq_true c5
      clear c5
      by_cases c6 : x5_1 < (l1.length : Int)
      ·
       rw [if_pos c6] at H
       have c6b0 : decide (x5_1 < (l1.length : Int)) = true := decide_eq_true c6
       clear c6
       replace H := Option.bind_eq_some_iff.mp H
       obtain ⟨t149, A70, H⟩ := H
       replace H : (if t149 = true then (petrinetref48_Equal.l0 k1 l0 l1 (wrap64 (x5_1 + 1))) else (some false)) = some r := H
       have A7 := Aside0.mk A70
       clear A70
       by_cases c8 : t149 = true
       ·
        subst c8
        have H1 : (petrinetref48_Equal.l0 k1 l0 l1 (wrap64 (x5_1 + 1))) = some r := by rw [if_pos rfl] at H; exact H
        clear H
        have H := H1
        clear H1
        have H' := Aside0.mk H
        clear H
        have p147 : 0 ≤ (x5_1 : Int) := of_decide_eq_true (by first | (with_reducible assumption) | assumption)
        have q147 : x5_1 < (l0.length : Int) := of_decide_eq_true (by first | (with_reducible assumption) | assumption)
        obtain ⟨ad147, A147_0, c147_0, e147, hx147_0, hl147_0, hi147_0⟩ := at_L1 HR0.out x5_1 p147 q147
        cases e147
        have HR147_0 := Aside0.mk hi147_0
        have HC147_0 := Aside0.mk hl147_0
        clear hi147_0 hl147_0
        replace p147 := eq_true p147
        replace q147 := eq_true q147
        have p148 : 0 ≤ (x5_1 : Int) := of_decide_eq_true (by first | (with_reducible assumption) | assumption)
        have q148 : x5_1 < (l1.length : Int) := of_decide_eq_true (by first | (with_reducible assumption) | assumption)
        obtain ⟨ad148, A148_0, c148_0, e148, hx148_0, hl148_0, hi148_0⟩ := at_L1 HR1.out x5_1 p148 q148
        cases e148
        have HR148_0 := Aside0.mk hi148_0
        have HC148_0 := Aside0.mk hl148_0
        clear hi148_0 hl148_0
        replace p148 := eq_true p148
        replace q148 := eq_true q148
        go_wp2_with (first | (go_at_call 29; (with_reducible refine (petrinetref48_Same.calls k1 _ _ (rd_L1 l0 x5_1) _ _ (rd_L1 l1 x5_1) true _ ?side1 ?side2 ?side3 ?side4 A7.out).mono ?_); (case side1 => repeat (first | exact HR147_0.out | (with_reducible refine Kd.C_alloc ?_ _) | (with_reducible refine Kd.C_drewN ?_ _) | (with_reducible refine Kd.C_drew ?_))); (case side2 => exact HC147_0.out); (case side3 => repeat (first | exact HR148_0.out | (with_reducible refine Kd.C_alloc ?_ _) | (with_reducible refine Kd.C_drewN ?_ _) | (with_reducible refine Kd.C_drew ?_))); (case side4 => exact HC148_0.out); rintro e w' ⟨rfl, ⟨nd, rfl⟩⟩; (try first | exact ⟨rfl, _, World.drewN_drewN _ _ _⟩ | exact ⟨rfl, _, Eq.trans (World.drewN_drewN _ _ _) (congrArg (World.drewN _) (Nat.add_assoc _ _ _))⟩)))
        repeat (go_quiet (first | (go_at_call 29; (with_reducible refine (petrinetref48_Same.calls k1 _ _ (rd_L1 l0 x5_1) _ _ (rd_L1 l1 x5_1) true _ ?side1 ?side2 ?side3 ?side4 A7.out).mono ?_); (case side1 => repeat (first | exact HR147_0.out | (with_reducible refine Kd.C_alloc ?_ _) | (with_reducible refine Kd.C_drewN ?_ _) | (with_reducible refine Kd.C_drew ?_))); (case side2 => exact HC147_0.out); (case side3 => repeat (first | exact HR148_0.out | (with_reducible refine Kd.C_alloc ?_ _) | (with_reducible refine Kd.C_drewN ?_ _) | (with_reducible refine Kd.C_drew ?_))); (case side4 => exact HC148_0.out); rintro e w' ⟨rfl, ⟨nd, rfl⟩⟩; (try first | exact ⟨rfl, _, World.drewN_drewN _ _ _⟩ | exact ⟨rfl, _, Eq.trans (World.drewN_drewN _ _ _) (congrArg (World.drewN _) (Nat.add_assoc _ _ _))⟩))); try go_wp2_with (first | (go_at_call 29; (with_reducible refine (petrinetref48_Same.calls k1 _ _ (rd_L1 l0 x5_1) _ _ (rd_L1 l1 x5_1) true _ ?side1 ?side2 ?side3 ?side4 A7.out).mono ?_); (case side1 => repeat (first | exact HR147_0.out | (with_reducible refine Kd.C_alloc ?_ _) | (with_reducible refine Kd.C_drewN ?_ _) | (with_reducible refine Kd.C_drew ?_))); (case side2 => exact HC147_0.out); (case side3 => repeat (first | exact HR148_0.out | (with_reducible refine Kd.C_alloc ?_ _) | (with_reducible refine Kd.C_drewN ?_ _) | (with_reducible refine Kd.C_drew ?_))); (case side4 => exact HC148_0.out); rintro e w' ⟨rfl, ⟨nd, rfl⟩⟩; (try first | exact ⟨rfl, _, World.drewN_drewN _ _ _⟩ | exact ⟨rfl, _, Eq.trans (World.drewN_drewN _ _ _) (congrArg (World.drewN _) (Nat.add_assoc _ _ _))⟩))))
        go_roundg k1
        case measure => have := HK1.out; omega
        case rel => exact ⟨(wrap64 (x5_1 + 1)), (by first | rfl | (simp; done) | (simp [*]; done) | (simp [i64_w]; done)), H', ⟨by have := HK1.out; omega⟩, by repeat (first | exact Drawn0.refl _ | apply Drawn0.step)⟩
       ·
        replace c8 := Bool.eq_false_iff.mpr c8
        subst c8
        have H1 : (some false) = some r := by rw [if_neg (show ¬ (false = true) by decide)] at H; exact H
        clear H
        have H := H1
        clear H1
        obtain rfl := Option.some.inj H
        have p147 : 0 ≤ (x5_1 : Int) := of_decide_eq_true (by first | (with_reducible assumption) | assumption)
        have q147 : x5_1 < (l0.length : Int) := of_decide_eq_true (by first | (with_reducible assumption) | assumption)
        obtain ⟨ad147, A147_0, c147_0, e147, hx147_0, hl147_0, hi147_0⟩ := at_L1 HR0.out x5_1 p147 q147
        cases e147
        have HR147_0 := Aside0.mk hi147_0
        have HC147_0 := Aside0.mk hl147_0
        clear hi147_0 hl147_0
        replace p147 := eq_true p147
        replace q147 := eq_true q147
        have p148 : 0 ≤ (x5_1 : Int) := of_decide_eq_true (by first | (with_reducible assumption) | assumption)
        have q148 : x5_1 < (l1.length : Int) := of_decide_eq_true (by first | (with_reducible assumption) | assumption)
        obtain ⟨ad148, A148_0, c148_0, e148, hx148_0, hl148_0, hi148_0⟩ := at_L1 HR1.out x5_1 p148 q148
        cases e148
        have HR148_0 := Aside0.mk hi148_0
        have HC148_0 := Aside0.mk hl148_0
        clear hi148_0 hl148_0
        replace p148 := eq_true p148
        replace q148 := eq_true q148
        go_wp2_with (first | (go_at_call 29; (with_reducible refine (petrinetref48_Same.calls k1 _ _ (rd_L1 l0 x5_1) _ _ (rd_L1 l1 x5_1) false _ ?side1 ?side2 ?side3 ?side4 A7.out).mono ?_); (case side1 => repeat (first | exact HR147_0.out | (with_reducible refine Kd.C_alloc ?_ _) | (with_reducible refine Kd.C_drewN ?_ _) | (with_reducible refine Kd.C_drew ?_))); (case side2 => exact HC147_0.out); (case side3 => repeat (first | exact HR148_0.out | (with_reducible refine Kd.C_alloc ?_ _) | (with_reducible refine Kd.C_drewN ?_ _) | (with_reducible refine Kd.C_drew ?_))); (case side4 => exact HC148_0.out); rintro e w' ⟨rfl, ⟨nd, rfl⟩⟩; (try first | exact ⟨rfl, _, World.drewN_drewN _ _ _⟩ | exact ⟨rfl, _, Eq.trans (World.drewN_drewN _ _ _) (congrArg (World.drewN _) (Nat.add_assoc _ _ _))⟩)))
        repeat (go_quiet (first | (go_at_call 29; (with_reducible refine (petrinetref48_Same.calls k1 _ _ (rd_L1 l0 x5_1) _ _ (rd_L1 l1 x5_1) false _ ?side1 ?side2 ?side3 ?side4 A7.out).mono ?_); (case side1 => repeat (first | exact HR147_0.out | (with_reducible refine Kd.C_alloc ?_ _) | (with_reducible refine Kd.C_drewN ?_ _) | (with_reducible refine Kd.C_drew ?_))); (case side2 => exact HC147_0.out); (case side3 => repeat (first | exact HR148_0.out | (with_reducible refine Kd.C_alloc ?_ _) | (with_reducible refine Kd.C_drewN ?_ _) | (with_reducible refine Kd.C_drew ?_))); (case side4 => exact HC148_0.out); rintro e w' ⟨rfl, ⟨nd, rfl⟩⟩; (try first | exact ⟨rfl, _, World.drewN_drewN _ _ _⟩ | exact ⟨rfl, _, Eq.trans (World.drewN_drewN _ _ _) (congrArg (World.drewN _) (Nat.add_assoc _ _ _))⟩))); try go_wp2_with (first | (go_at_call 29; (with_reducible refine (petrinetref48_Same.calls k1 _ _ (rd_L1 l0 x5_1) _ _ (rd_L1 l1 x5_1) false _ ?side1 ?side2 ?side3 ?side4 A7.out).mono ?_); (case side1 => repeat (first | exact HR147_0.out | (with_reducible refine Kd.C_alloc ?_ _) | (with_reducible refine Kd.C_drewN ?_ _) | (with_reducible refine Kd.C_drew ?_))); (case side2 => exact HC147_0.out); (case side3 => repeat (first | exact HR148_0.out | (with_reducible refine Kd.C_alloc ?_ _) | (with_reducible refine Kd.C_drewN ?_ _) | (with_reducible refine Kd.C_drew ?_))); (case side4 => exact HC148_0.out); rintro e w' ⟨rfl, ⟨nd, rfl⟩⟩; (try first | exact ⟨rfl, _, World.drewN_drewN _ _ _⟩ | exact ⟨rfl, _, Eq.trans (World.drewN_drewN _ _ _) (congrArg (World.drewN _) (Nat.add_assoc _ _ _))⟩))))
        go_ret
        exact ⟨by first | rfl | (simp; done) | (simp [*]; done), by repeat (first | exact Drawn0.refl _ | apply Drawn0.step)⟩
      ·
       rw [if_neg c6] at H
       exact absurd H (by simp)
     ·
      rw [if_neg c5] at H
      exact absurd H (by simp)
    ·
     rw [if_neg c4] at H
     have c4b0 : decide (x5_1 < (l0.length : Int)) = false := decide_eq_false c4
     clear c4
     obtain rfl := Option.some.inj H
     go_wp2
     repeat (go_quiet (fail); try go_wp2)
     go_ret
     exact ⟨by first | rfl | (simp; done) | (simp [*]; done), by repeat (first | exact Drawn0.refl _ | apply Drawn0.step)⟩
 ·
  rw [if_neg c3] at H
  have c3b0 : ((l0.length : Int) == (l1.length : Int)) = false := beq_eq_false_iff_ne.mpr c3
  have c3b1 : ((l0.length : Int) != (l1.length : Int)) = true := bne_iff_ne.mpr c3
  have c3b2 : (l0.length == l1.length) = false := by first | simpa using c3 | (simp at c3 ⊢; omega)
  obtain rfl := Option.some.inj H
  go_enter Try.func12, Try.ntmps12
  go_wp2
  repeat (go_quiet (fail); try go_wp2)
  go_ret
  exact ⟨by first | rfl | (simp; done) | (simp [*]; done), by repeat (first | exact Drawn0.refl _ | apply Drawn0.step)⟩




/-! ### petrinetlaw48_few: function 13 -/
mutual
def petrinetlaw48_few.l0 : Nat → List (List ByteArray) → Int → Int → Option (Bool)
 | 0, _, _, _ => none
 | k + 1, x0, x3, x4 => if x4 < (x0.length : Int) then (petrinetlaw48_few.j1 k x0 x3 x4 (decide (x4 < 81))) else (petrinetlaw48_few.j1 k x0 x3 x4 false)
def petrinetlaw48_few.j1 : Nat → List (List ByteArray) → Int → Int → Bool → Option (Bool)
 | 0, _, _, _, _ => none
 | k + 1, x0, x3, x4, x13 => if x13 = true then (if 0 ≤ x4 then (if x4 < (x0.length : Int) then (petrinetlaw48_few.l1 k x0 (wrap64 (x3 + ((rd_L1 x0 x4).length : Int))) x4 0) else (none)) else (none)) else (if (x0.length : Int) ≤ 80 then (some (decide (x3 ≤ 400))) else (some false))
def petrinetlaw48_few.l1 : Nat → List (List ByteArray) → Int → Int → Int → Option (Bool)
 | 0, _, _, _, _ => none
 | k + 1, x0, x3, x4, x5 => if 0 ≤ x4 then (if x4 < (x0.length : Int) then (if x5 < ((rd_L1 x0 x4).length : Int) then (petrinetlaw48_few.j3 k x0 x3 x4 x5 (decide (x5 < 81))) else (petrinetlaw48_few.j3 k x0 x3 x4 x5 false)) else (none)) else (none)
def petrinetlaw48_few.j3 : Nat → List (List ByteArray) → Int → Int → Int → Bool → Option (Bool)
 | 0, _, _, _, _, _ => none
 | k + 1, x0, x3, x4, x5, x33 => if x33 = true then (if 0 ≤ x4 then (if x4 < (x0.length : Int) then (if 0 ≤ x5 then (if x5 < ((rd_L1 x0 x4).length : Int) then (if ((rdOf ByteArray.empty (rd_L1 x0 x4) x5).size : Int) > 40 then (some false) else (petrinetlaw48_few.l1 k x0 x3 x4 (wrap64 (x5 + 1)))) else (none)) else (none)) else (none)) else (none)) else (if 0 ≤ x4 then (if x4 < (x0.length : Int) then (if ((rd_L1 x0 x4).length : Int) > 80 then (some false) else (petrinetlaw48_few.l0 k x0 x3 (wrap64 (x4 + 1)))) else (none)) else (none))
end
def petrinetlaw48_few.f (k : Nat) (l0 : List (List ByteArray)) : Option (Bool) := petrinetlaw48_few.l0 k l0 0 0
theorem petrinetlaw48_few.mono_l : ∀ k, (∀ y0 y1 y2, LeO (petrinetlaw48_few.l0 k y0 y1 y2) (petrinetlaw48_few.l0 (k + 1) y0 y1 y2)) ∧ (∀ y0 y1 y2 y3, LeO (petrinetlaw48_few.j1 k y0 y1 y2 y3) (petrinetlaw48_few.j1 (k + 1) y0 y1 y2 y3)) ∧ (∀ y0 y1 y2 y3, LeO (petrinetlaw48_few.l1 k y0 y1 y2 y3) (petrinetlaw48_few.l1 (k + 1) y0 y1 y2 y3)) ∧ (∀ y0 y1 y2 y3 y4, LeO (petrinetlaw48_few.j3 k y0 y1 y2 y3 y4) (petrinetlaw48_few.j3 (k + 1) y0 y1 y2 y3 y4))
 | 0 => ⟨fun _ _ _ r h => by simp [petrinetlaw48_few.l0] at h, fun _ _ _ _ r h => by simp [petrinetlaw48_few.j1] at h, fun _ _ _ _ r h => by simp [petrinetlaw48_few.l1] at h, fun _ _ _ _ _ r h => by simp [petrinetlaw48_few.j3] at h⟩
 | k + 1 => by
  obtain ⟨ih0, ih1, ih2, ih3⟩ := petrinetlaw48_few.mono_l k
  refine ⟨?_, ?_, ?_, ?_⟩
  ·
   intro y0 y1 y2
   unfold petrinetlaw48_few.l0
   repeat' first
   | (with_reducible exact ih0 _ _ _)
   | (with_reducible exact ih1 _ _ _ _)
   | (with_reducible exact ih2 _ _ _ _)
   | (with_reducible exact ih3 _ _ _ _ _)
   | (with_reducible exact LeO.refl _)
   | (with_reducible exact LeO.none _)
   | (with_reducible refine LeO.ite ?_ ?_)
   | (with_reducible refine LeO.bind ?_ (fun _ => ?_))
   | exact ih0 _ _ _
   | exact ih1 _ _ _ _
   | exact ih2 _ _ _ _
   | exact ih3 _ _ _ _ _
   | exact LeO.none _
   | refine LeO.ite ?_ ?_
   | refine LeO.bind ?_ (fun _ => ?_)
  ·
   intro y0 y1 y2 y3
   unfold petrinetlaw48_few.j1
   repeat' first
   | (with_reducible exact ih0 _ _ _)
   | (with_reducible exact ih1 _ _ _ _)
   | (with_reducible exact ih2 _ _ _ _)
   | (with_reducible exact ih3 _ _ _ _ _)
   | (with_reducible exact LeO.refl _)
   | (with_reducible exact LeO.none _)
   | (with_reducible refine LeO.ite ?_ ?_)
   | (with_reducible refine LeO.bind ?_ (fun _ => ?_))
   | exact ih0 _ _ _
   | exact ih1 _ _ _ _
   | exact ih2 _ _ _ _
   | exact ih3 _ _ _ _ _
   | exact LeO.none _
   | refine LeO.ite ?_ ?_
   | refine LeO.bind ?_ (fun _ => ?_)
  ·
   intro y0 y1 y2 y3
   unfold petrinetlaw48_few.l1
   repeat' first
   | (with_reducible exact ih0 _ _ _)
   | (with_reducible exact ih1 _ _ _ _)
   | (with_reducible exact ih2 _ _ _ _)
   | (with_reducible exact ih3 _ _ _ _ _)
   | (with_reducible exact LeO.refl _)
   | (with_reducible exact LeO.none _)
   | (with_reducible refine LeO.ite ?_ ?_)
   | (with_reducible refine LeO.bind ?_ (fun _ => ?_))
   | exact ih0 _ _ _
   | exact ih1 _ _ _ _
   | exact ih2 _ _ _ _
   | exact ih3 _ _ _ _ _
   | exact LeO.none _
   | refine LeO.ite ?_ ?_
   | refine LeO.bind ?_ (fun _ => ?_)
  ·
   intro y0 y1 y2 y3 y4
   unfold petrinetlaw48_few.j3
   repeat' first
   | (with_reducible exact ih0 _ _ _)
   | (with_reducible exact ih1 _ _ _ _)
   | (with_reducible exact ih2 _ _ _ _)
   | (with_reducible exact ih3 _ _ _ _ _)
   | (with_reducible exact LeO.refl _)
   | (with_reducible exact LeO.none _)
   | (with_reducible refine LeO.ite ?_ ?_)
   | (with_reducible refine LeO.bind ?_ (fun _ => ?_))
   | exact ih0 _ _ _
   | exact ih1 _ _ _ _
   | exact ih2 _ _ _ _
   | exact ih3 _ _ _ _ _
   | exact LeO.none _
   | refine LeO.ite ?_ ?_
   | refine LeO.bind ?_ (fun _ => ?_)
theorem petrinetlaw48_few.mono : ∀ a0 k, LeO (petrinetlaw48_few.f k a0) (petrinetlaw48_few.f (k + 1) a0) := by
 intro a0 k
 obtain ⟨ih0, ih1, ih2, ih3⟩ := petrinetlaw48_few.mono_l k
 unfold petrinetlaw48_few.f
 repeat' first
   | (with_reducible exact ih0 _ _ _)
   | (with_reducible exact ih1 _ _ _ _)
   | (with_reducible exact ih2 _ _ _ _)
   | (with_reducible exact ih3 _ _ _ _ _)
   | (with_reducible exact LeO.refl _)
   | (with_reducible exact LeO.none _)
   | (with_reducible refine LeO.ite ?_ ?_)
   | (with_reducible refine LeO.bind ?_ (fun _ => ?_))
   | exact ih0 _ _ _
   | exact ih1 _ _ _ _
   | exact ih2 _ _ _ _
   | exact ih3 _ _ _ _ _
   | exact LeO.none _
   | refine LeO.ite ?_ ?_
   | refine LeO.bind ?_ (fun _ => ?_)
set_option maxHeartbeats 8000000 in
set_option maxRecDepth 100000 in
theorem petrinetlaw48_few.calls (k : Nat) (A0 : Option Addr) (c0 : Nat) (l0 : List (List ByteArray)) (r : Bool) (w : World) (hr0 : Kd.C (Kd.slice 9 Kd.string) w A0 l0.length l0) (hc0 : l0.length ≤ c0) (h : petrinetlaw48_few.f k l0 = some r) :
  Calls Try.prog 13 #[.slice A0 l0.length c0] w fun e w' => e = .returned (.bool r) ∧ Drawn0 w w' := by
 have HR0 := Aside0.mk hr0
 have HC0 := Aside0.mk hc0
 clear hr0 hc0
 have H : (petrinetlaw48_few.l0 k l0 0 0) = some r := h
 clear h
 have H' := Aside0.mk H
 clear H
 go_enter Try.func13, Try.ntmps13
 go_wp2
 go_loopg [3, 4] k (fun kq v3 v4 w' => ∃ (x3_1 : Int) (x4_1 : Int), v3 = .int .i64 x3_1 ∧ v4 = .int .i64 x4_1 ∧ Aside0 (petrinetlaw48_few.l0 kq l0 x3_1 x4_1 = some r) ∧ Aside0 (kq ≤ k) ∧ Drawn0 w w')
 case atStart => exact ⟨(0), (0), (by first | rfl | (simp; done) | (simp [*]; done) | (simp [i64_w]; done)), (by first | rfl | (simp; done) | (simp [*]; done) | (simp [i64_w]; done)), H', ⟨Nat.le_refl _⟩, by repeat (first | exact Drawn0.refl _ | apply Drawn0.step)⟩
 case round =>
  clear H'
  try clear c1
  obtain ⟨x3_1, x4_1, rfl, rfl, HA, HK1, ⟨m1, rfl⟩⟩ := hrel
  cases gk with
  | zero => exact absurd HA.out (by simp [petrinetlaw48_few.l0])
  | succ k1 =>
   have H := HA.out
   clear HA
   simp only [petrinetlaw48_few.l0] at H
   have HC2 := Aside0.mk H
   clear H
   go_upto_region 3 with (fail)
   go_cut [13] (fun v13 wc => ∃ (kq : Nat) (x13_1 : Bool), v13 = .bool x13_1 ∧ Aside0 (petrinetlaw48_few.j1 kq l0 x3_1 x4_1 x13_1 = some r) ∧ Aside0 (kq ≤ k1) ∧ Drawn0 w wc)
   case first =>
    have H := HC2.out
    clear HC2
    by_cases c3 : x4_1 < (l0.length : Int)
    ·
     rw [if_pos c3] at H
     have c3b0 : decide (x4_1 < (l0.length : Int)) = true := decide_eq_true c3
     clear c3
     (first | rw [c3b0] | (simp only [i64_w, i32_w]; rw [c3b0]) | skip)
     have H' := Aside0.mk H
     clear H
     go_wp2
     go_meet
     case rel => exact ⟨_, (decide (x4_1 < 81)), (by first | rfl | (simp; done) | (simp [*]; done) | (simp [i64_w]; done)), H', ⟨by have := HK1.out; first | omega | exact Nat.le_refl _⟩, by repeat (first | exact Drawn0.refl _ | apply Drawn0.step)⟩
    ·
     rw [if_neg c3] at H
     have c3b0 : decide (x4_1 < (l0.length : Int)) = false := decide_eq_false c3
     clear c3
     (first | rw [c3b0] | (simp only [i64_w, i32_w]; rw [c3b0]) | skip)
     have H' := Aside0.mk H
     clear H
     go_wp2
     go_meet
     case rel => exact ⟨_, (false), (by first | rfl | (simp; done) | (simp [*]; done) | (simp [i64_w]; done)), H', ⟨by have := HK1.out; first | omega | exact Nat.le_refl _⟩, by repeat (first | exact Drawn0.refl _ | apply Drawn0.step)⟩
   case rest =>
    clear HC2
    try clear c1
    try clear p2
    try clear c3
    try clear c3b0
    obtain ⟨kq, x13_1, rfl, HA, HJ1, ⟨mc1, rfl⟩⟩ := hcut
    cases kq with
    | zero => exact absurd HA.out (by simp [petrinetlaw48_few.j1])
    | succ kj1 =>
     have H := HA.out
     clear HA
     simp only [petrinetlaw48_few.j1] at H
     by_cases c4 : x13_1 = true
     ·
      subst c4
      have H1 : (if 0 ≤ x4_1 then (if x4_1 < (l0.length : Int) then (petrinetlaw48_few.l1 kj1 l0 (wrap64 (x3_1 + ((rd_L1 l0 x4_1).length : Int))) x4_1 0) else (none)) else (none)) = some r := by rw [if_pos rfl] at H; exact H
      clear H
      have H := H1
      clear H1
      by_cases c5 : 0 ≤ x4_1
      ·
       rw [if_pos c5] at H
       have c5b0 : decide (0 ≤ x4_1) = true := decide_eq_true c5
       clear c5
       by_cases c6 : x4_1 < (l0.length : Int)
       ·
        rw [if_pos c6] at H
        have c6b0 : decide (x4_1 < (l0.length : Int)) = true := decide_eq_true c6
        clear c6
        have H' := Aside0.mk H
        clear H
        have p165 : 0 ≤ (x4_1 : Int) := of_decide_eq_true (by first | (with_reducible assumption) | assumption)
        have q165 : x4_1 < (l0.length : Int) := of_decide_eq_true (by first | (with_reducible assumption) | assumption)
        obtain ⟨ad165, A165_0, c165_0, e165, hx165_0, hl165_0, hi165_0⟩ := at_L1 HR0.out x4_1 p165 q165
        cases e165
        have HR165_0 := Aside0.mk hi165_0
        have HC165_0 := Aside0.mk hl165_0
        clear hi165_0 hl165_0
        replace p165 := eq_true p165
        replace q165 := eq_true q165
        go_wp2
        go_loopg [5] kj1 (fun kq v5 w' => ∃ (x5_3 : Int), v5 = .int .i64 x5_3 ∧ Aside0 (petrinetlaw48_few.l1 kq l0 (wrap64 (x3_1 + ((rd_L1 l0 x4_1).length : Int))) x4_1 x5_3 = some r) ∧ Aside0 (kq ≤ kj1) ∧ Drawn0 w w')
        case atStart => exact ⟨(0), (by first | rfl | (simp; done) | (simp [*]; done) | (simp [i64_w]; done)), H', ⟨Nat.le_refl _⟩, by repeat (first | exact Drawn0.refl _ | apply Drawn0.step)⟩
        case round =>
         clear H'
         try clear c1
         try clear p1
         try clear q1
         try clear hx1
         try clear p2
         try clear c3
         try clear c3b0
         try clear c4
         try clear c5
         try clear c5b0
         try clear c6
         try clear c6b0
         try clear p6
         try clear hx165_0
         try clear p165
         try clear p2
         try clear q165
         obtain ⟨x5_3, rfl, HA, HK3, ⟨m3, rfl⟩⟩ := hrel
         cases gk with
         | zero => exact absurd HA.out (by simp [petrinetlaw48_few.l1])
         | succ k3 =>
          have H := HA.out
          clear HA
          simp only [petrinetlaw48_few.l1] at H
          have HC7 := Aside0.mk H
          clear H
          go_upto_region 7 with (fail)
          go_cut [33] (fun v33 wc => ∃ (kq : Nat) (x33_6 : Bool), v33 = .bool x33_6 ∧ Aside0 (petrinetlaw48_few.j3 kq l0 (wrap64 (x3_1 + ((rd_L1 l0 x4_1).length : Int))) x4_1 x5_3 x33_6 = some r) ∧ Aside0 (kq ≤ k3) ∧ Drawn0 w wc)
          case first =>
           have H := HC7.out
           clear HC7
           by_cases c8 : 0 ≤ x4_1
           ·
            rw [if_pos c8] at H
            have c8b0 : decide (0 ≤ x4_1) = true := decide_eq_true c8
            clear c8
            (first | rw [c8b0] | (simp only [i64_w, i32_w]; rw [c8b0]) | skip)
            by_cases c9 : x4_1 < (l0.length : Int)
            ·
             rw [if_pos c9] at H
             have c9b0 : decide (x4_1 < (l0.length : Int)) = true := decide_eq_true c9
             clear c9
             by_cases c10 : x5_3 < ((rd_L1 l0 x4_1).length : Int)
             ·
              rw [if_pos c10] at H
              have c10b0 : decide (x5_3 < ((rd_L1 l0 x4_1).length : Int)) = true := decide_eq_true c10
              clear c10
              have H' := Aside0.mk H
              clear H
              have p166 : 0 ≤ (x4_1 : Int) := of_decide_eq_true (by first | (with_reducible assumption) | assumption)
              have q166 : x4_1 < (l0.length : Int) := of_decide_eq_true (by first | (with_reducible assumption) | assumption)
              obtain ⟨ad166, A166_0, c166_0, e166, hx166_0, hl166_0, hi166_0⟩ := at_L1 HR0.out x4_1 p166 q166
              obtain rfl : ad165 = ad166 := (by injection e166)
              have HR166_0 := Aside0.mk hi166_0
              have HC166_0 := Aside0.mk hl166_0
              clear hi166_0 hl166_0
              replace p166 := eq_true p166
              replace q166 := eq_true q166
              go_wp2
              go_meet
              case rel => exact ⟨_, (decide (x5_3 < 81)), (by first | rfl | (simp; done) | (simp [*]; done) | (simp [i64_w]; done)), H', ⟨by have := HK1.out; have := HJ1.out; have := HK3.out; first | omega | exact Nat.le_refl _⟩, by repeat (first | exact Drawn0.refl _ | apply Drawn0.step)⟩
             ·
              rw [if_neg c10] at H
              have c10b0 : decide (x5_3 < ((rd_L1 l0 x4_1).length : Int)) = false := decide_eq_false c10
              clear c10
              have H' := Aside0.mk H
              clear H
              have p166 : 0 ≤ (x4_1 : Int) := of_decide_eq_true (by first | (with_reducible assumption) | assumption)
              have q166 : x4_1 < (l0.length : Int) := of_decide_eq_true (by first | (with_reducible assumption) | assumption)
              obtain ⟨ad166, A166_0, c166_0, e166, hx166_0, hl166_0, hi166_0⟩ := at_L1 HR0.out x4_1 p166 q166
              obtain rfl : ad165 = ad166 := (by injection e166)
              have HR166_0 := Aside0.mk hi166_0
              have HC166_0 := Aside0.mk hl166_0
              clear hi166_0 hl166_0
              replace p166 := eq_true p166
              replace q166 := eq_true q166
              go_wp2
              go_meet
              case rel => exact ⟨_, (false), (by first | rfl | (simp; done) | (simp [*]; done) | (simp [i64_w]; done)), H', ⟨by have := HK1.out; have := HJ1.out; have := HK3.out; first | omega | exact Nat.le_refl _⟩, by repeat (first | exact Drawn0.refl _ | apply Drawn0.step)⟩
            ·
             rw [if_neg c9] at H
             exact absurd H (by simp)
           ·
            rw [if_neg c8] at H
            exact absurd H (by simp)
          case rest =>
           clear HC7
           try clear c1
           try clear p1
           try clear q1
           try clear hx1
           try clear p2
           try clear c3
           try clear c3b0
           try clear c4
           try clear c5
           try clear c5b0
           try clear c6
           try clear c6b0
           try clear p6
           try clear c8
           try clear c8b0
           try clear c9
           try clear c9b0
           try clear c10
           try clear c10b0
           try clear hx165_0
           try clear hx166_0
           try clear p1
           try clear p165
           try clear p166
           try clear p2
           try clear p6
           try clear q1
           try clear q165
           try clear q166
           obtain ⟨kq, x33_6, rfl, HA, HJ6, ⟨mc6, rfl⟩⟩ := hcut
           cases kq with
           | zero => exact absurd HA.out (by simp [petrinetlaw48_few.j3])
           | succ kj6 =>
            have H := HA.out
            clear HA
            simp only [petrinetlaw48_few.j3] at H
            by_cases c11 : x33_6 = true
            ·
             subst c11
             have H1 : (if 0 ≤ x4_1 then (if x4_1 < (l0.length : Int) then (if 0 ≤ x5_3 then (if x5_3 < ((rd_L1 l0 x4_1).length : Int) then (if ((rdOf ByteArray.empty (rd_L1 l0 x4_1) x5_3).size : Int) > 40 then (some false) else (petrinetlaw48_few.l1 kj6 l0 (wrap64 (x3_1 + ((rd_L1 l0 x4_1).length : Int))) x4_1 (wrap64 (x5_3 + 1)))) else (none)) else (none)) else (none)) else (none)) = some r := by rw [if_pos rfl] at H; exact H
             clear H
             have H := H1
             clear H1
             by_cases c12 : 0 ≤ x4_1
             ·
              rw [if_pos c12] at H
              have c12b0 : decide (0 ≤ x4_1) = true := decide_eq_true c12
              clear c12
              by_cases c13 : x4_1 < (l0.length : Int)
              ·
               rw [if_pos c13] at H
               have c13b0 : decide (x4_1 < (l0.length : Int)) = true := decide_eq_true c13
               clear c13
               by_cases c14 : 0 ≤ x5_3
               ·
                rw [if_pos c14] at H
                have c14b0 : decide (0 ≤ x5_3) = true := decide_eq_true c14
                clear c14
                by_cases c15 : x5_3 < ((rd_L1 l0 x4_1).length : Int)
                ·
                 rw [if_pos c15] at H
                 have c15b0 : decide (x5_3 < ((rd_L1 l0 x4_1).length : Int)) = true := decide_eq_true c15
                 clear c15
                 by_cases c16 : ((rdOf ByteArray.empty (rd_L1 l0 x4_1) x5_3).size : Int) > 40
                 ·
                  rw [if_pos c16] at H
                  have c16b0 : decide (40 < ((rdOf ByteArray.empty (rd_L1 l0 x4_1) x5_3).size : Int)) = true := decide_eq_true c16
                  have c16b1 : decide (40 < (rdOf ByteArray.empty (rd_L1 l0 x4_1) x5_3).size) = true := decide_eq_true (by omega)
                  clear c16
                  obtain rfl := Option.some.inj H
                  have p167 : 0 ≤ (x4_1 : Int) := of_decide_eq_true (by first | (with_reducible assumption) | assumption)
                  have q167 : x4_1 < (l0.length : Int) := of_decide_eq_true (by first | (with_reducible assumption) | assumption)
                  obtain ⟨ad167, A167_0, c167_0, e167, hx167_0, hl167_0, hi167_0⟩ := at_L1 HR0.out x4_1 p167 q167
                  obtain rfl : ad165 = ad167 := (by injection e167)
                  have HR167_0 := Aside0.mk hi167_0
                  have HC167_0 := Aside0.mk hl167_0
                  clear hi167_0 hl167_0
                  replace p167 := eq_true p167
                  replace q167 := eq_true q167
                  have p168 : 0 ≤ (x5_3 : Int) := of_decide_eq_true (by first | (with_reducible assumption) | assumption)
                  have q168 : x5_3 < ((rd_L1 l0 x4_1).length : Int) := of_decide_eq_true (by first | (with_reducible assumption) | assumption)
                  obtain ⟨ad168, e168, hx168_0⟩ := Kd.at_string HR167_0.out x5_3 p168 q168
                  cases e168
                  replace p168 := eq_true p168
                  replace q168 := eq_true q168
                  go_wp2
                  go_ret
                  exact ⟨by first | rfl | (simp; done) | (simp [*]; done), by repeat (first | exact Drawn0.refl _ | apply Drawn0.step)⟩
                 ·
                  rw [if_neg c16] at H
                  have c16b0 : decide (40 < ((rdOf ByteArray.empty (rd_L1 l0 x4_1) x5_3).size : Int)) = false := decide_eq_false c16
                  have c16b1 : decide (40 < (rdOf ByteArray.empty (rd_L1 l0 x4_1) x5_3).size) = false := decide_eq_false (by omega)
                  clear c16
                  have H' := Aside0.mk H
                  clear H
                  have p167 : 0 ≤ (x4_1 : Int) := of_decide_eq_true (by first | (with_reducible assumption) | assumption)
                  have q167 : x4_1 < (l0.length : Int) := of_decide_eq_true (by first | (with_reducible assumption) | assumption)
                  obtain ⟨ad167, A167_0, c167_0, e167, hx167_0, hl167_0, hi167_0⟩ := at_L1 HR0.out x4_1 p167 q167
                  obtain rfl : ad165 = ad167 := (by injection e167)
                  have HR167_0 := Aside0.mk hi167_0
                  have HC167_0 := Aside0.mk hl167_0
                  clear hi167_0 hl167_0
                  replace p167 := eq_true p167
                  replace q167 := eq_true q167
                  have p168 : 0 ≤ (x5_3 : Int) := of_decide_eq_true (by first | (with_reducible assumption) | assumption)
                  have q168 : x5_3 < ((rd_L1 l0 x4_1).length : Int) := of_decide_eq_true (by first | (with_reducible assumption) | assumption)
                  obtain ⟨ad168, e168, hx168_0⟩ := Kd.at_string HR167_0.out x5_3 p168 q168
                  cases e168
                  replace p168 := eq_true p168
                  replace q168 := eq_true q168
                  go_wp2
                  go_roundg kj6
                  case measure => have := HK1.out; have := HJ1.out; have := HK3.out; have := HJ6.out; omega
                  case rel => exact ⟨(wrap64 (x5_3 + 1)), (by first | rfl | (simp; done) | (simp [*]; done) | (simp [i64_w]; done)), H', ⟨by have := HK1.out; have := HJ1.out; have := HK3.out; have := HJ6.out; omega⟩, by repeat (first | exact Drawn0.refl _ | apply Drawn0.step)⟩
                ·
                 rw [if_neg c15] at H
                 exact absurd H (by simp)
               ·
                rw [if_neg c14] at H
                exact absurd H (by simp)
              ·
               rw [if_neg c13] at H
               exact absurd H (by simp)
             ·
              rw [if_neg c12] at H
              exact absurd H (by simp)
            ·
             replace c11 := Bool.eq_false_iff.mpr c11
             subst c11
             have H1 : (if 0 ≤ x4_1 then (if x4_1 < (l0.length : Int) then (if ((rd_L1 l0 x4_1).length : Int) > 80 then (some false) else (petrinetlaw48_few.l0 kj6 l0 (wrap64 (x3_1 + ((rd_L1 l0 x4_1).length : Int))) (wrap64 (x4_1 + 1)))) else (none)) else (none)) = some r := by rw [if_neg (show ¬ (false = true) by decide)] at H; exact H
             clear H
             have H := H1
             clear H1
             by_cases c17 : 0 ≤ x4_1
             ·
              rw [if_pos c17] at H
              have c17b0 : decide (0 ≤ x4_1) = true := decide_eq_true c17
              clear c17
              by_cases c18 : x4_1 < (l0.length : Int)
              ·
               rw [if_pos c18] at H
               have c18b0 : decide (x4_1 < (l0.length : Int)) = true := decide_eq_true c18
               clear c18
               by_cases c19 : ((rd_L1 l0 x4_1).length : Int) > 80
               ·
                rw [if_pos c19] at H
                have c19b0 : decide (80 < ((rd_L1 l0 x4_1).length : Int)) = true := decide_eq_true c19
                have c19b1 : decide (80 < (rd_L1 l0 x4_1).length) = true := decide_eq_true (by omega)
                clear c19
                obtain rfl := Option.some.inj H
                have p169 : 0 ≤ (x4_1 : Int) := of_decide_eq_true (by first | (with_reducible assumption) | assumption)
                have q169 : x4_1 < (l0.length : Int) := of_decide_eq_true (by first | (with_reducible assumption) | assumption)
                obtain ⟨ad169, A169_0, c169_0, e169, hx169_0, hl169_0, hi169_0⟩ := at_L1 HR0.out x4_1 p169 q169
                obtain rfl : ad165 = ad169 := (by injection e169)
                have HR169_0 := Aside0.mk hi169_0
                have HC169_0 := Aside0.mk hl169_0
                clear hi169_0 hl169_0
                replace p169 := eq_true p169
                replace q169 := eq_true q169
                go_wp2
                go_ret
                exact ⟨by first | rfl | (simp; done) | (simp [*]; done), by repeat (first | exact Drawn0.refl _ | apply Drawn0.step)⟩
               ·
                rw [if_neg c19] at H
                have c19b0 : decide (80 < ((rd_L1 l0 x4_1).length : Int)) = false := decide_eq_false c19
                have c19b1 : decide (80 < (rd_L1 l0 x4_1).length) = false := decide_eq_false (by omega)
                clear c19
                have H' := Aside0.mk H
                clear H
                have p169 : 0 ≤ (x4_1 : Int) := of_decide_eq_true (by first | (with_reducible assumption) | assumption)
                have q169 : x4_1 < (l0.length : Int) := of_decide_eq_true (by first | (with_reducible assumption) | assumption)
                obtain ⟨ad169, A169_0, c169_0, e169, hx169_0, hl169_0, hi169_0⟩ := at_L1 HR0.out x4_1 p169 q169
                obtain rfl : ad165 = ad169 := (by injection e169)
                have HR169_0 := Aside0.mk hi169_0
                have HC169_0 := Aside0.mk hl169_0
                clear hi169_0 hl169_0
                replace p169 := eq_true p169
                replace q169 := eq_true q169
                go_wp2
                go_roundg kj6
                case measure => have := HK1.out; have := HJ1.out; have := HK3.out; have := HJ6.out; omega
                case rel => exact ⟨((wrap64 (x3_1 + ((rd_L1 l0 x4_1).length : Int)))), (wrap64 (x4_1 + 1)), (by first | rfl | (simp; done) | (simp [*]; done) | (simp [i64_w]; done)), (by first | rfl | (simp; done) | (simp [*]; done) | (simp [i64_w]; done)), H', ⟨by have := HK1.out; have := HJ1.out; have := HK3.out; have := HJ6.out; omega⟩, by repeat (first | exact Drawn0.refl _ | apply Drawn0.step)⟩
              ·
               rw [if_neg c18] at H
               exact absurd H (by simp)
             ·
              rw [if_neg c17] at H
              exact absurd H (by simp)
       ·
        rw [if_neg c6] at H
        exact absurd H (by simp)
      ·
       rw [if_neg c5] at H
       exact absurd H (by simp)
     ·
      replace c4 := Bool.eq_false_iff.mpr c4
      subst c4
      have H1 : (if (l0.length : Int) ≤ 80 then (some (decide (x3_1 ≤ 400))) else (some false)) = some r := by rw [if_neg (show ¬ (false = true) by decide)] at H; exact H
      clear H
      have H := H1
      clear H1
      by_cases c20 : (l0.length : Int) ≤ 80
      ·
       rw [if_pos c20] at H
       have c20b0 : decide ((l0.length : Int) ≤ 80) = true := decide_eq_true c20
       have c20b1 : decide (l0.length ≤ 80) = true := decide_eq_true (by omega)
       clear c20
       obtain rfl := Option.some.inj H
       go_wp2
       go_ret
       exact ⟨by first | rfl | (simp; done) | (simp [*]; done), by repeat (first | exact Drawn0.refl _ | apply Drawn0.step)⟩
      ·
       rw [if_neg c20] at H
       have c20b0 : decide ((l0.length : Int) ≤ 80) = false := decide_eq_false c20
       have c20b1 : decide (l0.length ≤ 80) = false := decide_eq_false (by omega)
       clear c20
       obtain rfl := Option.some.inj H
       go_wp2
       go_ret
       exact ⟨by first | rfl | (simp; done) | (simp [*]; done), by repeat (first | exact Drawn0.refl _ | apply Drawn0.step)⟩


/-! ### petrinetref48_Follows: function 15 -/
mutual
def petrinetref48_Follows.l0 : Nat → List (List ByteArray) → ByteArray → ByteArray → Int → Int → Option (Int)
 | 0, _, _, _, _, _ => none
 | k + 1, x0, x1, x2, x7, x8 => if x8 < (x0.length : Int) then (petrinetref48_Follows.l1 k x0 x1 x2 x7 x8 1) else (some x7)
def petrinetref48_Follows.l1 : Nat → List (List ByteArray) → ByteArray → ByteArray → Int → Int → Int → Option (Int)
 | 0, _, _, _, _, _, _ => none
 | k + 1, x0, x1, x2, x7, x8, x9 => if 0 ≤ x8 then (if x8 < (x0.length : Int) then (if x9 < ((rd_L1 x0 x8).length : Int) then (if 0 ≤ (wrap64 (x9 - 1)) then (if (wrap64 (x9 - 1)) < ((rd_L1 x0 x8).length : Int) then (if (rdOf ByteArray.empty (rd_L1 x0 x8) (wrap64 (x9 - 1))).toList = x1.toList then (if 0 ≤ x9 then (if (rdOf ByteArray.empty (rd_L1 x0 x8) x9).toList = x2.toList then (petrinetref48_Follows.l1 k x0 x1 x2 (wrap64 (x7 + 1)) x8 (wrap64 (x9 + 1))) else (petrinetref48_Follows.l1 k x0 x1 x2 x7 x8 (wrap64 (x9 + 1)))) else (none)) else (petrinetref48_Follows.l1 k x0 x1 x2 x7 x8 (wrap64 (x9 + 1)))) else (none)) else (none)) else (petrinetref48_Follows.l0 k x0 x1 x2 x7 (wrap64 (x8 + 1)))) else (none)) else (none)
end
def petrinetref48_Follows.f (k : Nat) (l0 : List (List ByteArray)) (a1 : ByteArray) (a2 : ByteArray) : Option (Int) := petrinetref48_Follows.l0 k l0 a1 a2 0 0
theorem petrinetref48_Follows.mono_l : ∀ k, (∀ y0 y1 y2 y3 y4, LeO (petrinetref48_Follows.l0 k y0 y1 y2 y3 y4) (petrinetref48_Follows.l0 (k + 1) y0 y1 y2 y3 y4)) ∧ (∀ y0 y1 y2 y3 y4 y5, LeO (petrinetref48_Follows.l1 k y0 y1 y2 y3 y4 y5) (petrinetref48_Follows.l1 (k + 1) y0 y1 y2 y3 y4 y5))
 | 0 => ⟨fun _ _ _ _ _ r h => by simp [petrinetref48_Follows.l0] at h, fun _ _ _ _ _ _ r h => by simp [petrinetref48_Follows.l1] at h⟩
 | k + 1 => by
  obtain ⟨ih0, ih1⟩ := petrinetref48_Follows.mono_l k
  refine ⟨?_, ?_⟩
  ·
   intro y0 y1 y2 y3 y4
   unfold petrinetref48_Follows.l0
   repeat' first
   | (with_reducible exact ih0 _ _ _ _ _)
   | (with_reducible exact ih1 _ _ _ _ _ _)
   | (with_reducible exact LeO.refl _)
   | (with_reducible exact LeO.none _)
   | (with_reducible refine LeO.ite ?_ ?_)
   | (with_reducible refine LeO.bind ?_ (fun _ => ?_))
   | exact ih0 _ _ _ _ _
   | exact ih1 _ _ _ _ _ _
   | exact LeO.none _
   | refine LeO.ite ?_ ?_
   | refine LeO.bind ?_ (fun _ => ?_)
  ·
   intro y0 y1 y2 y3 y4 y5
   unfold petrinetref48_Follows.l1
   repeat' first
   | (with_reducible exact ih0 _ _ _ _ _)
   | (with_reducible exact ih1 _ _ _ _ _ _)
   | (with_reducible exact LeO.refl _)
   | (with_reducible exact LeO.none _)
   | (with_reducible refine LeO.ite ?_ ?_)
   | (with_reducible refine LeO.bind ?_ (fun _ => ?_))
   | exact ih0 _ _ _ _ _
   | exact ih1 _ _ _ _ _ _
   | exact LeO.none _
   | refine LeO.ite ?_ ?_
   | refine LeO.bind ?_ (fun _ => ?_)
theorem petrinetref48_Follows.mono : ∀ a0 a1 a2 k, LeO (petrinetref48_Follows.f k a0 a1 a2) (petrinetref48_Follows.f (k + 1) a0 a1 a2) := by
 intro a0 a1 a2 k
 obtain ⟨ih0, ih1⟩ := petrinetref48_Follows.mono_l k
 unfold petrinetref48_Follows.f
 repeat' first
   | (with_reducible exact ih0 _ _ _ _ _)
   | (with_reducible exact ih1 _ _ _ _ _ _)
   | (with_reducible exact LeO.refl _)
   | (with_reducible exact LeO.none _)
   | (with_reducible refine LeO.ite ?_ ?_)
   | (with_reducible refine LeO.bind ?_ (fun _ => ?_))
   | exact ih0 _ _ _ _ _
   | exact ih1 _ _ _ _ _ _
   | exact LeO.none _
   | refine LeO.ite ?_ ?_
   | refine LeO.bind ?_ (fun _ => ?_)



section
-- STUBBED 17
/-! ### petrinetref48_Relation: function 17: by hand -/

def rrelOf (x y : Int) : Int := if x > 0 then (if y > 0 then 3 else 1) else (if y > 0 then 2 else 0)
def petrinetref48_Relation.f (k : Nat) (l0 : List (List ByteArray)) (a1 : ByteArray) (a2 : ByteArray) : Option (Int) := (petrinetref48_Follows.f k l0 a1 a2).bind fun t107 => ((petrinetref48_Follows.f k l0 a2 a1).bind fun t108 => some (rrelOf t107 t108))
theorem petrinetref48_Relation.mono (a0 : List (List ByteArray)) (a1 a2 : ByteArray) (k : Nat) : LeO (petrinetref48_Relation.f k a0 a1 a2) (petrinetref48_Relation.f (k + 1) a0 a1 a2) :=
  LeO.bind (petrinetref48_Follows.mono _ _ _ _) fun _ => LeO.bind (petrinetref48_Follows.mono _ _ _ _) fun _ => LeO.refl _

end









end Go.Proofs.Ytaofommgdgmncaa.Pr
