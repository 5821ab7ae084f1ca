-- Written by a program of this session (the kit's print with mkprint.py's replacements). Lean checks it.
import Derived.Test.YtmopcjebjbdapaaPr0
import Derived.Test.YtmopcjebjbdapaaIter
namespace Go.Proofs.Ytmopcjebjbdapaa.Pr
open Go.RowKit Go.Proofs.YtmopcjebjbdapaaW.PrintWords Go.Proofs.YtmopcjebjbdapaaW.PrintLast Go.Proofs.YtmopcjebjbdapaaW.PrintMore
attribute [local go_sem] max2_int min2_int max_two min_two max_three min_three max_four min_four   -- for this text's walks alone
set_option linter.unusedVariables false
set_option linter.unusedSimpArgs false

-- STUBBED 15
/-! ### bitset_List: function 15: by hand -/
open Go.Shelf Go.Proofs.Ytmopcjebjbdapaa.Iter
attribute [local go_sem] Oper.semAt_some

/-- Bit i of s, as the code asks for it. -/
def bitAt (s : Int) (i : Nat) : Bool := (Go.bits .and .u64 (s / 2 ^ i) 1) == 1
def elemsTo (s : Int) (k : Nat) : List Nat := (List.range k).filter (bitAt s)
theorem elemsTo_hit {s : Int} {k : Nat} (h : bitAt s k = true) : elemsTo s (k + 1) = elemsTo s k ++ [k] := by simp [elemsTo, List.range_succ, h]
theorem elemsTo_miss {s : Int} {k : Nat} (h : bitAt s k = false) : elemsTo s (k + 1) = elemsTo s k := by simp [elemsTo, List.range_succ, h]
theorem elemsTo_len (s : Int) (k : Nat) : (elemsTo s k).length ≤ k := by
  have := List.length_filter_le (bitAt s) (List.range k)
  simpa [elemsTo] using this

set_option maxHeartbeats 1000000 in
/-- elements(s): s is boxed; the function value captures the box. -/
theorem elements_in (F : Fence) (n : Nat) (hf : F.fn 36) (hro : F.round = none) (s : Int) (w : World) :
    CallsIn F n Try.prog 36 #[.int .u64 s] w fun e w' => e = .returned (.func (.func 42) #[] #[.pointer (some ⟨w.heap.size, 0, none⟩)]) ∧ w' = w.alloc (.cells #[.int .u64 s] 22) := by
  refine callsIn_of_wp Try.func36 rfl hf ?_ hro
  simp only [Try.ntmps36, List.size_toArray, List.length_cons, List.length_nil, Nat.reduceAdd, Nat.reduceSub, Array.replicate_succ, Array.replicate_zero, List.push_toArray, List.append_toArray, List.nil_append, List.cons_append]
  gi_wp2
  go_ret
  exact ⟨rfl, rfl⟩

set_option maxRecDepth 100000 in
set_option maxHeartbeats 2000000 in
/-- The closure: the elements below 64, in order, for every loop body that keeps the box of s. -/
theorem elements1_in (F : Fence) (n : Nat) (hf : F.fn 42) (hro : F.round = none) (hn : 1 ≤ n) (l B n₀ : Nat) (s : Int) (J Jx : List Nat → World → Prop)
    (hY : ∀ (pre : List Nat) (x : Nat) (W : World), J pre W → pre.length < 64 → YieldAt F (n - 1) Try.prog l #[.int .i64 (x : Int)] W fun e W' =>
      (e = .returned (.bool true) ∧ J (pre ++ [x]) W' ∧ KpBox n₀ B 22 (.int .u64 s) W W') ∨ (e = .returned (.bool false) ∧ Jx (pre ++ [x]) W'))
    (W : World) (hb : Boxed W B 22 (.int .u64 s)) (h0 : J [] W) :
    CallsIn F n Try.prog 42 #[.func (.yield l) #[] #[], .pointer (some ⟨B, 0, none⟩)] W fun e W' => (∃ v, e = .returned v) ∧
      ((∃ ys, ys = elemsTo s 64 ∧ J ys W') ∨ (∃ pre, (∃ k, k < 64 ∧ bitAt s k = true ∧ pre = elemsTo s (k + 1)) ∧ Jx pre W')) := by
  refine callsIn_of_wp Try.func42 rfl hf ?_ hro
  simp only [Try.ntmps42, List.size_toArray, List.length_cons, List.length_nil, Nat.reduceAdd, Nat.reduceSub, Array.replicate_succ, Array.replicate_zero, List.push_toArray, List.append_toArray, List.nil_append, List.cons_append]
  gi_wp2
  gi_loopw [3] (fun i wr => ∃ k : Nat, k ≤ 64 ∧ i = .int .i64 k ∧ J (elemsTo s k) wr ∧ Boxed wr B 22 (.int .u64 s))
    (fun i _ => 64 - (intOf i).toNat)
  case atStart => exact ⟨0, by omega, rfl, h0, hb⟩
  case round =>
    obtain ⟨k, hk, rfl, hJs, hbx⟩ := hrel
    have hc := hbx.cell
    by_cases hlt : k < 64
    · have hw1 : IntKind.u64.wrap (k : Int) = k := by unfold IntKind.wrap; simp [IntKind.bits, IntKind.signed]; omega
      cases hbit : bitAt s k with
      | true =>
        obtain ⟨fn, tmps, assign, body, hy, hR⟩ := hY _ k wr hJs (by have := elemsTo_len s k; omega)
        have hbb : (Go.bits .and .u64 (s / 2 ^ k) 1 == 1) = true := hbit
        have HB := Lib.hid hbit
        clear hbit
        gi_wp2
        refine hR.mono ?_
        rintro e W3 (⟨rfl, hJ3, hk3⟩ | ⟨rfl, hJx3⟩)
        · gi_wp2
          go_roundw
          case rel => exact ⟨k + 1, by omega, by simp, by rw [elemsTo_hit HB.out]; exact hJ3, hk3.2 hbx⟩
          case measure => simp [intOf]; omega
        · gi_wp2
          refine bodyPost_ret (results_none rfl _ _ _) rfl ?_
          exact ⟨⟨_, rfl⟩, .inr ⟨_, ⟨k, hlt, HB.out, (elemsTo_hit HB.out).symm⟩, hJx3⟩⟩
      | false =>
        have hbb : (Go.bits .and .u64 (s / 2 ^ k) 1 == 1) = false := hbit
        have HB := Lib.hid hbit
        clear hbit
        gi_wp2
        refine ⟨fun _ h => (by cases h), ?_⟩
        gi_wp2
        go_roundw
        case rel => exact ⟨k + 1, by omega, by simp, by rw [elemsTo_miss HB.out]; exact hJs, hbx⟩
        case measure => simp [intOf]; omega
    · obtain rfl : k = 64 := by omega
      gi_wp2
      go_end0
      exact ⟨⟨_, rfl⟩, .inl ⟨_, rfl, hJs⟩⟩

def SeqAll (s : Int) (ys : List Nat) : Prop := ys = elemsTo s 64
def SeqPart (s : Int) (pre : List Nat) : Prop := ∃ k, k < 64 ∧ bitAt s k = true ∧ pre = elemsTo s (k + 1)
theorem elements_stops (F : Fence) (n : Nat) (hf : F.fn 42) (hro : F.round = none) (hn : 1 ≤ n) (B n₀ : Nat) (s : Int) (w : World) (hb : Boxed w B 22 (.int .u64 s)) :
    SeqStopsK F n Try.prog 42 #[.pointer (some ⟨B, 0, none⟩)] (fun x : Nat => #[Value.int .i64 (x : Int)]) (KpBox n₀ B 22 (.int .u64 s)) (SeqAll s) (SeqPart s) 64 w := fun l J Jx W hW _ _ hY h0 =>
  elements1_in F n hf hro hn l B n₀ s J Jx hY W ((hW.block B hb.lt).trans hb) h0

theorem info_int : (Try.prog.info? 3).map (fun i => (i.zero, i.size, i.bytes)) = some (some (.int .i64 0), 1, 8) := by kernel_rfl
def encI (k : Nat) : Value := .int .i64 (k : Int)
def bitset_List.f (a0 : Int) : Option (List Int) := some ((elemsTo a0 64).map Int.ofNat)

/-- Between two rounds: the list so far. -/
def ListI (w : World) (s : Int) (pre : List Nat) (W : World) : Prop :=
  ((∃ v, Boxed W w.heap.size 23 v ∧ W.ownsRow w.heap.size 3 1 v pre.length (pre.map encI) ∧ True) ∧ Boxed W (w.heap.size + 1) 22 (.int .u64 s)) ∧ Below w.heap.size w W

set_option maxRecDepth 100000 in
set_option maxHeartbeats 4000000 in
theorem bitset_List.in_ (F : Fence) (n : Nat) (h3 : F.fn 15) (h4 : F.fn 36) (h5 : F.fn 42) (hro : F.round = none) (hn : 3 ≤ n) (s : Int) (w : World) :
    CallsIn F n Try.prog 15 #[.int .u64 s] w fun e W' => ∃ v, e = .returned v ∧ W'.ownsRow w.heap.size 3 1 v (elemsTo s 64).length ((elemsTo s 64).map encI) ∧ Below w.heap.size w W' := by
  have h1 : 1 ≤ n := by omega
  obtain ⟨i0, hi, hz0, hz1, hz2⟩ := info_parts info_int
  refine callsIn_of_wp_marks Try.func15 rfl h3 ?_ hro
  simp only [Try.ntmps15, List.size_toArray, List.length_cons, List.length_nil, Nat.reduceAdd, Nat.reduceSub, Array.replicate_succ, Array.replicate_zero, List.push_toArray, List.append_toArray, List.nil_append, List.cons_append]
  gi_wp2_with (gi_at_call 36; refine (elements_in F (n - 1) h4 hro _ _).mono ?_; rintro e w' ⟨rfl, rfl⟩)
  have bO := Boxed.new w 23 (.slice none 0 0)
  have bN := Boxed.new (w.alloc (.cells #[.slice none 0 0] 23)) 22 (.int .u64 s)
  rw [World.size_alloc] at bN
  have hB0 : Below w.heap.size w ((w.alloc (.cells #[.slice none 0 0] 23)).alloc (.cells #[.int .u64 s] 22)) := ((Below.refl _ w).alloc (Nat.le_refl _) _).alloc (by simp) _
  refine wpIn_rangeFunc_ownG hro h1 (gf := 42) (lb := #[.pointer (some ⟨w.heap.size + 1, 0, none⟩)]) rfl h5 (enters_of Try.func42 (by kernel_rfl) rfl)
    (elements_stops F (n - 1) h5 hro (by omega) (w.heap.size + 1) w.heap.size s _ bN) kpBox_t (kpBox_b (by simp; omega)) (Below.refl _ _) (fun _ => rfl)
    (ListI w s)
    (fun _ _ _ => False)
    (OwnFrom.and (OwnFrom.and (Own.from (holdsRow_own w.heap.size w.heap.size 23 3 1 (fun pre : List Nat => pre.length) (fun pre : List Nat => pre.map encI) (fun _ _ => True)) _) (Own.from (boxed_own _ _ _) _)) (ownFrom_below (Nat.le_refl _) (by simp; omega)))
    (fun _ _ _ _ _ hs _ _ => hs)
    ⟨⟨⟨_, bO.alloc _, World.ownsRow_nil _ _ _ _, trivial⟩, bN⟩, hB0⟩
    (fun x => { tmps := #[.int .u64 s, undef, .slice none 0 0, .pointer (some ⟨w.heap.size, 0, none⟩), .int .i64 x, .int .u64 s, .func (.func 42) #[] #[.pointer (some ⟨w.heap.size + 1, 0, none⟩)], .int .i64 x, undef, undef, undef, undef, undef], defers := [] }) ?assign ?body ?done ?stop
  case assign =>
    intro l x W K hK
    gi_wp2
    exact hK
  case body =>
    rintro l pre x W ⟨⟨⟨v, hv, hrow, _⟩, hbx⟩, hB⟩ hlt
    have hc := hv.cell
    gi_wp2_with (gi_at_builtin; go_loud (refine wpListIn_append_own _ rfl _ _ 23 rfl w.heap.size 3 i0 (.int .i64 0) 1 8 Try.underlying23 hi hz0 hz1 hz2 rfl (by decide) _ _ _ rfl (hrow.alloc _) ⟨W.heap.size, 0, none⟩ 1 1 [.int .i64 x] rfl rfl (cell_one_new _ _ _) (by simp [Value.oneCell']) (by unfold maxLen; omega) (by omega) (by have := hB.size; simp; omega) ?_); intro v' w1 hown' hgrow _; obtain ⟨g', cap', rfl⟩ := ownsRow_succ hown'; obtain ⟨hv1, hv2, hr2, hk2, hb2⟩ := hv.appended (by decide) hrow hB.size (Nat.le_refl _) hown' hgrow; have hc1 := hv1.cell; have hf1 := hv1.frozen; have hne1 : some (w.heap.size + 1) ≠ v.ownBlock := hbx.not_row (by decide) hrow; have hbx1 := (hbx.alloc (.cells #[.int .i64 x] 3)).kept hgrow hne1)
    exact ⟨hk2.from _, ⟨hb2, fun _ => hbx1.other (by simp) _⟩, ⟨⟨⟨_, hv2, by simpa [encI] using hr2, trivial⟩, hbx1.other (by simp) _⟩, hB.trans hb2⟩⟩
  case done =>
    rintro D ys W hD rfl ⟨⟨⟨v, hv, hrow, _⟩, hbx⟩, hB⟩ hK
    have hc := hv.cell
    gi_wp2
    refine ⟨by simp, .inl ⟨_, _, rfl, run_takeDeferred hK, ?_⟩⟩
    exact ⟨_, results_tmp rfl _ _ _, v, rfl, ownsRow_putObj hrow _ hK rfl, hB.trans (belowK_b (w := w) (Nat.le_refl _) W D _ _ (by simp at hD; omega) hK rfl rfl)⟩
  case stop =>
    rintro D c pre W _ _ h _
    exact h.elim

theorem bitset_List.calls (a0 : Int) (r : List Int) (w : World) (h : bitset_List.f a0 = some r) :
    Calls Try.prog 15 #[.int .u64 a0] w fun e w' => ∃ v0_ : Value, e = .returned (v0_) ∧ Kd.R (Kd.int .i64) 3 w' w.heap.size (fun _ => True) v0_ r ∧ Below w.heap.size w w' := by
  obtain rfl := Option.some.inj h
  refine (callsIn_wide (n := 3)).1 ((bitset_List.in_ Fence.wide 3 trivial trivial trivial rfl (by omega) a0 w).mono ?_)
  rintro e W' ⟨v, rfl, hr, hb⟩
  exact ⟨v, rfl, Kd.R_of_own (by rw [List.length_map]; exact cast (by congr 1; simp [encs, encI]) hr) (fun _ _ => trivial), hb⟩

end Go.Proofs.Ytmopcjebjbdapaa.Pr
