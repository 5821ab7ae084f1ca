-- Written by a program of this session (the kit's print with mkprint.py's replacements). Lean checks it.
import Derived.Test.YtaofommgdgmncaaPr0
import Derived.Test.YtaofommgdgmncaaIter
import Derived.Test.YtaofommgdgmncaaParts
import Derived.Sort.QuietIn
import Derived.Shelf.RegionOpen
namespace Go.Proofs.Ytaofommgdgmncaa.Pr
open Go.RowKit Go.Proofs.YtaofommgdgmncaaW.PrintWords Go.Proofs.YtaofommgdgmncaaW.PrintLast Go.Proofs.YtaofommgdgmncaaW.PrintMore
attribute [local go_sem] Instr.field asAgg
attribute [local go_sem] max2_int min2_int max_two min_two max_three min_three max_four min_four   -- for this text's walks alone
set_option linter.unusedVariables false
set_option linter.unusedSimpArgs false

-- STUBBED 35
/-! ### eventlog_words: function 35: by hand -/
open Go.Shelf Go.Proofs.Ytaofommgdgmncaa.Iter Go.Proofs.Ytaofommgdgmncaa.Parts
attribute [local go_sem] Oper.semAt_some

def textFits (s : ByteArray) : Prop := s.size ≤ 1099511627776

set_option maxHeartbeats 1000000 in
/-- parts(s, by): both are boxed; the function value captures the boxes. -/
theorem parts_in (F : Fence) (n : Nat) (hf : F.fn 34) (hro : F.round = none) (s : ByteArray) (b : Int) (w : World) :
    CallsIn F n Try.prog 34 #[.string s, .int .u8 b] w fun e w' => e = .returned (.func (.func 44) #[] #[.pointer (some ⟨w.heap.size, 0, none⟩), .pointer (some ⟨w.heap.size + 1, 0, none⟩)]) ∧ w' = (w.alloc (.cells #[.string s] 9)).alloc (.cells #[.int .u8 b] 5) := by
  refine callsIn_of_wp Try.func34 rfl hf ?_ hro
  simp only [Try.ntmps34, List.size_toArray, List.length_cons, List.length_nil, Nat.reduceAdd, Nat.reduceSub, Array.replicate_succ, Array.replicate_zero, List.push_toArray, List.append_toArray, List.nil_append, List.cons_append]
  gi_wp2
  go_ret
  exact ⟨rfl, rfl⟩

def boxesOf (B B' : Nat) (s : ByteArray) (b : Int) : List (Nat × TypeId × Value) := [(B, 9, .string s), (B', 5, .int .u8 b)]
theorem boxesOf_iff {B B' : Nat} {s : ByteArray} {b : Int} {W : World} : BoxesIn (boxesOf B B' s b) W ↔ Boxed W B 9 (.string s) ∧ Boxed W B' 5 (.int .u8 b) := by
  constructor
  · intro h
    exact ⟨h (B, 9, .string s) (by simp [boxesOf]), h (B', 5, .int .u8 b) (by simp [boxesOf])⟩
  · rintro ⟨h1, h2⟩ p hp
    simp only [boxesOf, List.mem_cons, List.not_mem_nil, or_false] at hp
    rcases hp with rfl | rfl
    · exact h1
    · exact h2

theorem boxesIn_drewN {bs : List (Nat × TypeId × Value)} {W : World} (h : BoxesIn bs W) (q : Nat) : BoxesIn bs (W.drewN q) := h
set_option maxRecDepth 100000 in
set_option maxHeartbeats 4000000 in
/-- The closure: the parts, in order, for every loop body that keeps the two boxes. -/
theorem parts1_in (n : Nat) (hn : 1 ≤ n) (l B B' n₀ : Nat) (s : ByteArray) (b : Int) (hs : s.size ≤ 1099511627776) (J Jx : List ByteArray → World → Prop) (hJ : ∀ (pre : List ByteArray) (W : World) (q : Nat), J pre W → J pre (W.drewN q))
    (hY : ∀ (pre : List ByteArray) (x : ByteArray) (W : World), x.size ≤ s.size → J pre W → pre.length < s.size + 1 → YieldAt Fence.wide (n - 1) Try.prog l #[.string x] W fun e W' =>
      (e = .returned (.bool true) ∧ J (pre ++ [x]) W' ∧ KpBs n₀ (boxesOf B B' s b) W W') ∨ (e = .returned (.bool false) ∧ Jx (pre ++ [x]) W'))
    (W : World) (hb : BoxesIn (boxesOf B B' s b) W) (h0 : J [] W) :
    CallsIn Fence.wide n Try.prog 44 #[.func (.yield l) #[] #[], .pointer (some ⟨B, 0, none⟩), .pointer (some ⟨B', 0, none⟩)] W fun e W' => (∃ v, e = .returned v) ∧
      ((∃ ys, ys = partsOf s b ∧ J ys W') ∨ (∃ pre, (∃ k, k ≤ s.size ∧ cutAt s b k = true ∧ pre = (pf s b (k + 1)).1) ∧ Jx pre W')) := by
  refine callsIn_of_wp Try.func44 rfl trivial ?_ rfl
  simp only [Try.ntmps44, List.size_toArray, List.length_cons, List.length_nil, Nat.reduceAdd, Nat.reduceSub, Array.replicate_succ, Array.replicate_zero, List.push_toArray, List.append_toArray, List.nil_append, List.cons_append]
  gi_wp2
  gi_loopw [4, 5] (fun fr i wr => ∃ k : Nat, k ≤ s.size + 1 ∧ i = .int .i64 k ∧ fr = .int .i64 ((pf s b k).2 : Nat) ∧ J (pf s b k).1 wr ∧ Aside0 (BoxesIn (boxesOf B B' s b) wr))
    (fun _ i _ => s.size + 1 - (intOf i).toNat)
  case atStart => exact ⟨0, by omega, rfl, rfl, h0, ⟨hb⟩⟩
  case round =>
    obtain ⟨k, hk, rfl, rfl, hJs, HBX⟩ := hrel
    obtain ⟨bx1, bx2⟩ := boxesOf_iff.1 HBX.out
    have hc1 := bx1.cell
    have hc2 := bx2.cell
    obtain ⟨fr, hfr⟩ : ∃ fr, fr = (pf s b k).2 := ⟨_, rfl⟩
    have hfk : fr ≤ k := by rw [hfr]; exact pf_from s b k
    rw [← hfr]
    have HFR := Aside0.mk hfr
    clear hfr
    by_cases hle : k ≤ s.size
    · have hfs : fr ≤ s.size := by omega
      cases hcut : cutAt s b k with
      | true =>
        have hpl := pf_len s b k
        have HC := Aside0.mk hcut
        by_cases hlt : k < s.size
        · have hg := cut_get (b := b) hlt
          rw [hcut] at hg
          have hd1 : decide ((k : Int) < (s.size : Int)) = true := decide_eq_true (by omega)
          have hne : (((s[k]'hlt).toNat : Int) != b) = false := by rw [bne_eq_false_iff_eq]; exact eq_of_beq hg.symm
          clear hcut hg
          gi_wp2
          gi_quiet (fail)
          obtain ⟨fn, tmps, assign, body, hy, hR⟩ := hY _ (s.extract fr k) (wr.drewN nq) (by rw [ByteArray.size_extract]; omega) (hJ _ _ _ hJs) (by omega)
          gi_wp2
          refine hR.mono ?_
          rintro e W3 (⟨rfl, hJ3, hk3⟩ | ⟨rfl, hJx3⟩)
          · gi_wp2
            go_roundw
            case rel => exact ⟨k + 1, by omega, by go_num, by rw [pf_hit HC.out]; go_num, by rw [pf_hit HC.out, ← HFR.out]; exact hJ3, ⟨hk3.2 (boxesIn_drewN HBX.out _)⟩⟩
            case measure => simp [intOf] <;> omega
          · gi_wp2
            refine bodyPost_ret (results_none rfl _ _ _) rfl ?_
            exact ⟨⟨_, rfl⟩, .inr ⟨_, ⟨k, hle, HC.out, by rw [pf_hit HC.out, ← HFR.out]⟩, hJx3⟩⟩
        · obtain rfl : k = s.size := by omega
          have hd1 : decide ((s.size : Int) < (s.size : Int)) = false := decide_eq_false (by omega)
          clear hcut
          gi_wp2
          gi_quiet (fail)
          obtain ⟨fn, tmps, assign, body, hy, hR⟩ := hY _ (s.extract fr s.size) (wr.drewN nq) (by rw [ByteArray.size_extract]; omega) (hJ _ _ _ hJs) (by omega)
          gi_wp2
          refine hR.mono ?_
          rintro e W3 (⟨rfl, hJ3, hk3⟩ | ⟨rfl, hJx3⟩)
          · gi_wp2
            go_roundw
            case rel => exact ⟨s.size + 1, by omega, by go_num, by rw [pf_hit HC.out]; go_num, by rw [pf_hit HC.out, ← HFR.out]; exact hJ3, ⟨hk3.2 (boxesIn_drewN HBX.out _)⟩⟩
            case measure => simp [intOf] <;> omega
          · gi_wp2
            refine bodyPost_ret (results_none rfl _ _ _) rfl ?_
            exact ⟨⟨_, rfl⟩, .inr ⟨_, ⟨s.size, hle, HC.out, by rw [pf_hit HC.out, ← HFR.out]⟩, hJx3⟩⟩
      | false =>
        have HC := Aside0.mk hcut
        have hlt : k < s.size := by
          rcases Nat.lt_or_ge k s.size with h9 | h9
          · exact h9
          · have e9 : k = s.size := by omega
            rw [e9, cut_end] at hcut; cases hcut
        have hg := cut_get (b := b) hlt
        rw [hcut] at hg
        have hd1 : decide ((k : Int) < (s.size : Int)) = true := decide_eq_true (by omega)
        have hne : (((s[k]'hlt).toNat : Int) != b) = true := by rw [bne_iff_ne]; intro e; rw [e] at hg; simp at hg
        clear hcut hg
        gi_wp2
        gi_quiet (fail)
        gi_wp2
        go_roundw
        case rel => exact ⟨k + 1, by omega, by go_num, by rw [pf_miss HC.out, ← HFR.out], by rw [pf_miss HC.out]; exact hJ _ _ _ hJs, ⟨boxesIn_drewN HBX.out _⟩⟩
        case measure => simp [intOf] <;> omega
    · obtain rfl : k = s.size + 1 := by omega
      gi_wp2
      go_end0
      exact ⟨⟨_, rfl⟩, .inl ⟨_, rfl, hJs⟩⟩

def PartsAll (s : ByteArray) (b : Int) (ys : List ByteArray) : Prop := ys = partsOf s b
def PartsSome (s : ByteArray) (b : Int) (pre : List ByteArray) : Prop := ∃ k, k ≤ s.size ∧ cutAt s b k = true ∧ pre = (pf s b (k + 1)).1
theorem boxesIn_later {bs : List (Nat × TypeId × Value)} {w W : World} (h : BoxesIn bs w) (hb : Below w.heap.size w W) : BoxesIn bs W := fun p hp => (hb.block p.1 (h p hp).lt).trans (h p hp)
theorem parts_stops (n : Nat) (hn : 1 ≤ n) (B B' n₀ : Nat) (s : ByteArray) (b : Int) (hs : s.size ≤ 1099511627776) (w : World) (hb : BoxesIn (boxesOf B B' s b) w) :
    SeqStopsK Fence.wide n Try.prog 44 #[.pointer (some ⟨B, 0, none⟩), .pointer (some ⟨B', 0, none⟩)] (fun x : ByteArray => #[Value.string x]) (KpBs n₀ (boxesOf B B' s b)) (PartsAll s b) (PartsSome s b) (s.size + 1) w := fun l J Jx W hW hJ _ hY h0 =>
  parts1_in n hn l B B' n₀ s b hs J Jx (fun pre V q hv => hJ pre V _ none hv ⟨rfl, rfl, rfl, Nat.le_refl _, fun _ _ _ => rfl⟩ (fun r e => by cases e)) (fun pre x W1 _ => hY pre x W1) W (boxesIn_later hb hW) h0
/-- A part of s is no longer than s. -/
structure Part (s : ByteArray) : Type where
  val : ByteArray
  le : val.size ≤ s.size
def PartsAllB (s : ByteArray) (b : Int) (ys : List (Part s)) : Prop := ys.map Part.val = partsOf s b
def PartsSomeB (s : ByteArray) (b : Int) (pre : List (Part s)) : Prop := ∃ k, k ≤ s.size ∧ cutAt s b k = true ∧ pre.map Part.val = (pf s b (k + 1)).1
theorem parts_stopsB (n : Nat) (hn : 1 ≤ n) (B B' n₀ : Nat) (s : ByteArray) (b : Int) (hs : s.size ≤ 1099511627776) (w : World) (hb : BoxesIn (boxesOf B B' s b) w) :
    SeqStopsK Fence.wide n Try.prog 44 #[.pointer (some ⟨B, 0, none⟩), .pointer (some ⟨B', 0, none⟩)] (fun x : Part s => #[Value.string x.val]) (KpBs n₀ (boxesOf B B' s b)) (PartsAllB s b) (PartsSomeB s b) (s.size + 1) w := fun l J Jx W hW hJ _ hY h0 => by
  refine (parts1_in n hn l B B' n₀ s b hs (fun pre V => ∃ pre' : List (Part s), pre'.map Part.val = pre ∧ J pre' V) (fun pre V => ∃ pre' : List (Part s), pre'.map Part.val = pre ∧ Jx pre' V) ?_ ?_ W (boxesIn_later hb hW) ⟨[], rfl, h0⟩).mono ?_
  · rintro pre V q ⟨pre', he, hv⟩
    exact ⟨pre', he, hJ pre' V _ none hv ⟨rfl, rfl, rfl, Nat.le_refl _, fun _ _ _ => rfl⟩ (fun r e => by cases e)⟩
  · rintro pre x V hx ⟨pre', rfl, hv⟩ hlt
    obtain ⟨fn, tmps, assign, body, hy, hR⟩ := hY pre' ⟨x, hx⟩ V hv (by rw [List.length_map] at hlt; exact hlt)
    refine ⟨fn, tmps, assign, body, hy, hR.mono ?_⟩
    rintro e V' (⟨he, hj, hk⟩ | ⟨he, hj⟩)
    · exact .inl ⟨he, ⟨_, by simp, hj⟩, hk⟩
    · exact .inr ⟨he, _, by simp, hj⟩
  · rintro e V ⟨hv, h⟩
    refine ⟨hv, ?_⟩
    rcases h with ⟨ys, hys, pre', he, hj⟩ | ⟨pre, hk, pre', he, hj⟩
    · exact .inl ⟨pre', he.trans hys, hj⟩
    · obtain ⟨k, h1, h2, h3⟩ := hk
      exact .inr ⟨pre', ⟨k, h1, h2, he.trans h3⟩, hj⟩

/-! ### words -/
def wordsIn (pre : List ByteArray) : List ByteArray := pre.filter (fun x => !x.toList.isEmpty)
theorem wordsIn_hit (pre : List ByteArray) {x : ByteArray} (h : x.toList.isEmpty = false) : wordsIn (pre ++ [x]) = wordsIn pre ++ [x] := by simp [wordsIn, h]
theorem wordsIn_miss (pre : List ByteArray) {x : ByteArray} (h : x.toList.isEmpty = true) : wordsIn (pre ++ [x]) = wordsIn pre := by simp [wordsIn, h]
theorem wordsIn_len (pre : List ByteArray) : (wordsIn pre).length ≤ pre.length := List.length_filter_le _ _
def wordsOf (s : ByteArray) : List ByteArray := wordsIn (partsOf s 32)
def eventlog_words.f (a0 : ByteArray) : Option (List ByteArray) := if a0.size ≤ 1099511627776 then some (wordsOf a0) else none
theorem info_str : (Try.prog.info? 9).map (fun i => (i.zero, i.size, i.bytes)) = some (some (.string ⟨#[]⟩), 1, 16) := by kernel_rfl

/-- Between two rounds: the words so far. -/
def WordsI (w : World) (s : ByteArray) (pre : List ByteArray) (W : World) : Prop :=
  ((∃ v, Boxed W w.heap.size 34 v ∧ W.ownsRow (w.heap.size + 1 + 1 + 1) 9 1 v (wordsIn pre).length ((wordsIn pre).map Value.string) ∧ True) ∧ (Boxed W (w.heap.size + 1) 9 (.string s) ∧ Boxed W (w.heap.size + 1 + 1) 5 (.int .u8 32))) ∧ Below w.heap.size w W

set_option maxRecDepth 100000 in
set_option maxHeartbeats 4000000 in
theorem eventlog_words.in_ (n : Nat) (hn : 3 ≤ n) (s : ByteArray) (hs : s.size ≤ 1099511627776) (w : World) :
    CallsIn Fence.wide n Try.prog 35 #[.string s] w fun e W' => ∃ v, e = .returned v ∧ W'.ownsRow w.heap.size 9 1 v (wordsOf s).length ((wordsOf s).map Value.string) ∧ Below w.heap.size w W' := by
  have h1 : 1 ≤ n := by omega
  obtain ⟨i0, hi, hz0, hz1, hz2⟩ := info_parts info_str
  refine callsIn_of_wp_marks Try.func35 rfl trivial ?_ rfl
  simp only [Try.ntmps35, List.size_toArray, List.length_cons, List.length_nil, Nat.reduceAdd, Nat.reduceSub, Array.replicate_succ, Array.replicate_zero, List.push_toArray, List.append_toArray, List.nil_append, List.cons_append]
  gi_wp2_with (refine ⟨trivial, ?_⟩; gi_at_call 34; refine (parts_in Fence.wide (n - 1) trivial rfl _ _ _).mono ?_; rintro e w' ⟨rfl, rfl⟩)
  have bO := Boxed.new w 34 (.slice none 0 0)
  have bN := Boxed.new (w.alloc (.cells #[.slice none 0 0] 34)) 9 (.string s)
  have bM := Boxed.new ((w.alloc (.cells #[.slice none 0 0] 34)).alloc (.cells #[.string s] 9)) 5 (.int .u8 32)
  rw [World.size_alloc] at bN
  rw [World.size_alloc, World.size_alloc] at bM
  have hB0 : Below w.heap.size w (((w.alloc (.cells #[.slice none 0 0] 34)).alloc (.cells #[.string s] 9)).alloc (.cells #[.int .u8 32] 5)) := (((Below.refl _ w).alloc (Nat.le_refl _) _).alloc (by simp) _).alloc (by simp; omega) _
  refine wpIn_rangeFunc_ownG (F := Fence.wide) (show Fence.wide.round = none from rfl) h1 (gf := 44) (lb := #[.pointer (some ⟨w.heap.size + 1, 0, none⟩), .pointer (some ⟨w.heap.size + 1 + 1, 0, none⟩)]) rfl trivial (enters_of Try.func44 (by kernel_rfl) rfl)
    (parts_stops (n - 1) (by omega) (w.heap.size + 1) (w.heap.size + 1 + 1) w.heap.size s 32 hs _ (boxesOf_iff.2 ⟨bN.alloc _, bM⟩)) kpBs_t (kpBs_b (by simp; omega)) (Below.refl _ _) (by intro _; rfl)
    (WordsI w s)
    (fun _ _ _ => False)
    (OwnFrom.and (OwnFrom.and (Own.from (holdsRow_own (w.heap.size + 1 + 1 + 1) w.heap.size 34 9 1 (fun pre : List ByteArray => (wordsIn pre).length) (fun pre : List ByteArray => (wordsIn pre).map Value.string) (fun _ _ => True)) _) (OwnFrom.and (Own.from (boxed_own _ _ _) _) (Own.from (boxed_own _ _ _) _))) (ownFrom_below (Nat.le_refl _) (by simp; omega)))
    (fun _ _ _ _ _ hs _ _ => hs)
    ⟨⟨⟨_, (bO.alloc _).alloc _, World.ownsRow_nil _ _ _ _, trivial⟩, bN.alloc _, bM⟩, hB0⟩
    (fun x => { tmps := #[.string s, undef, .slice none 0 0, .pointer (some ⟨w.heap.size, 0, none⟩), .string x, .string s, .func (.func 44) #[] #[.pointer (some ⟨w.heap.size + 1, 0, none⟩), .pointer (some ⟨w.heap.size + 1 + 1, 0, none⟩)], .string x, undef, undef, undef, undef, undef, undef, undef], defers := [] }) ?assign ?body ?done ?stop
  case assign =>
    intro l x W K hK
    gi_wp2
    exact hK
  case body =>
    rintro l pre x W ⟨⟨⟨v, hv, hrow, _⟩, hb1, hb2⟩, hB⟩ hlt
    have hc := hv.cell
    have hwl := wordsIn_len pre
    cases hx : x.toList.isEmpty with
    | true =>
      have hxl : x.toList = [] := List.isEmpty_iff.1 hx
      have hx2 : (!x.toList.isEmpty) = false := by rw [hx]; rfl
      have HX := Aside0.mk hx
      gi_wp2
      exact ⟨KeepsFrom.refl _ _, kpBs_refl _ _ _, ⟨⟨v, hv, by rw [wordsIn_miss pre HX.out]; exact hrow, trivial⟩, hb1, hb2⟩, hB⟩
    | false =>
      have hx2 : (!x.toList.isEmpty) = true := by rw [hx]; rfl
      have HX := Aside0.mk hx
      have hxl : ¬ x.toList = [] := fun h => by rw [h] at hx; simp at hx
      have hlt2 := hb2.lt
      have hne0 : some (w.heap.size + 1) ≠ v.ownBlock := fun e => by have := own_base hrow _ e.symm; omega
      gi_wp2_with (gi_at_builtin; refine wpListIn_append_own _ rfl _ _ 34 rfl (w.heap.size + 1 + 1 + 1) 9 i0 (.string ⟨#[]⟩) 1 16 Try.underlying34 hi hz0 hz1 hz2 rfl (by decide) _ _ _ rfl (hrow.alloc _) ⟨W.heap.size, 0, none⟩ 1 1 [.string x] rfl rfl (cell_one_new _ _ _) (by simp [Value.oneCell']) (by unfold maxLen; omega) (by omega) (by simp; omega) ?_; intro v' w1 hown' hgrow _; obtain ⟨g', cap', rfl⟩ := ownsRow_succ hown'; obtain ⟨hv1, hv2, hr2, hk2, hb2'⟩ := hv.appended (by decide) (own_weaken hrow (show w.heap.size ≤ w.heap.size + 1 + 1 + 1 by omega)) hB.size (Nat.le_refl _) (own_weaken hown' (show w.heap.size ≤ w.heap.size + 1 + 1 + 1 by omega)) hgrow; have hc1 := hv1.cell; have hf1 := hv1.frozen; have hne1 : some (w.heap.size + 1 + 1) ≠ v.ownBlock := hb2.not_row (by decide) hrow; have hb2k := (hb2.alloc (.cells #[.string x] 9)).kept hgrow hne1; have hb1k := (hb1.alloc (.cells #[.string x] 9)).kept hgrow hne0; have HOW := Aside0.mk hown'; clear hown')
      have hr3 := HOW.out.kept (grownBy_setCell' w1 w.heap.size (.slice (some ⟨g', 0, none⟩) ((wordsIn pre).length + 1) cap')) (.inr (hv1.not_row (by decide) HOW.out).symm)
      have hb1s := hb1k.other (B' := w.heap.size) (by simp) (.slice (some ⟨g', 0, none⟩) ((wordsIn pre).length + 1) cap')
      have hb2s := hb2k.other (B' := w.heap.size) (by simp; omega) (.slice (some ⟨g', 0, none⟩) ((wordsIn pre).length + 1) cap')
      exact ⟨hk2.from _, ⟨hb2', fun _ => boxesOf_iff.2 ⟨hb1s, hb2s⟩⟩, ⟨⟨_, hv2, by rw [wordsIn_hit pre HX.out]; simpa using hr3, trivial⟩, hb1s, hb2s⟩, hB.trans hb2'⟩
  case done =>
    rintro D ys W hD rfl ⟨⟨⟨v, hv, hrow, _⟩, hb1, hb2⟩, hB⟩ hK
    have hc := hv.cell
    gi_wp2
    refine ⟨by simp, .inl ⟨_, _, rfl, run_takeDeferred hK, ?_⟩⟩
    exact ⟨_, results_tmp rfl _ _ _, v, rfl, own_weaken (ownsRow_putObj hrow _ hK rfl) (by omega), hB.trans (belowK_b (w := w) (Nat.le_refl _) W D _ _ (by simp at hD; omega) hK rfl rfl)⟩
  case stop =>
    rintro D c pre W _ _ h _
    exact h.elim

theorem eventlog_words.calls (a0 : ByteArray) (r : List ByteArray) (w : World) (h : eventlog_words.f a0 = some r) :
    Calls Try.prog 35 #[.string a0] w fun e w' => ∃ v0_ : Value, e = .returned (v0_) ∧ Kd.R Kd.string 9 w' w.heap.size (fun _ => True) v0_ r ∧ Below w.heap.size w w' := by
  unfold eventlog_words.f at h
  split at h
  · rename_i hs
    obtain rfl := Option.some.inj h
    refine (callsIn_wide (n := 3)).1 ((eventlog_words.in_ 3 (by omega) a0 hs w).mono ?_)
    rintro e W' ⟨v, rfl, hr, hb⟩
    exact ⟨v, rfl, Kd.R_of_own hr (fun _ _ => trivial), hb⟩
  · cases h

end Go.Proofs.Ytaofommgdgmncaa.Pr
