-- Written by a program of this session (the kit's print with mkprint.py's replacements). Lean checks it.
import Derived.Test.YtmopcjebjbdapaaPr0
import Derived.Test.YtmopcjebjbdapaaPr2
import Derived.Test.YtmopcjebjbdapaaIter
namespace Go.Proofs.Ytmopcjebjbdapaa.Pr
open Go.RowKit Go.Proofs.YtmopcjebjbdapaaW.PrintWords Go.Proofs.YtmopcjebjbdapaaW.PrintLast Go.Proofs.YtmopcjebjbdapaaW.PrintMore
attribute [local go_sem] max2_int min2_int max_two min_two max_three min_three max_four min_four   -- for this text's walks alone
set_option linter.unusedVariables false
set_option linter.unusedSimpArgs false

-- STUBBED 23
/-! ### bitset_Len: function 23: by hand -/
open Go.Shelf Go.Proofs.Ytmopcjebjbdapaa.Iter
attribute [local go_sem] Oper.semAt_some

def bitset_Len.f (a0 : Int) : Option (Int) := some ((elemsTo a0 64).length : Int)

/-- Between two rounds: the count so far. -/
def LenI (w : World) (s : Int) (pre : List Nat) (W : World) : Prop :=
  (Boxed W w.heap.size 3 (.int .i64 (pre.length : Int)) ∧ Boxed W (w.heap.size + 1) 22 (.int .u64 s)) ∧ Below w.heap.size w W

set_option maxRecDepth 100000 in
set_option maxHeartbeats 4000000 in
theorem bitset_Len.in_ (F : Fence) (n : Nat) (h3 : F.fn 23) (h4 : F.fn 36) (h5 : F.fn 42) (hro : F.round = none) (hn : 3 ≤ n) (s : Int) (w : World) :
    CallsIn F n Try.prog 23 #[.int .u64 s] w fun e W' => e = .returned (.int .i64 ((elemsTo s 64).length : Int)) ∧ Below w.heap.size w W' := by
  have h1 : 1 ≤ n := by omega
  refine callsIn_of_wp_marks Try.func23 rfl h3 ?_ hro
  simp only [Try.ntmps23, List.size_toArray, List.length_cons, List.length_nil, Nat.reduceAdd, Nat.reduceSub, Array.replicate_succ, Array.replicate_zero, List.push_toArray, List.append_toArray, List.nil_append, List.cons_append]
  gi_wp2_with (gi_at_call 36; refine (elements_in F (n - 1) h4 hro _ _).mono ?_; rintro e w' ⟨rfl, rfl⟩)
  have bO := Boxed.new w 3 (.int .i64 0)
  have bN := Boxed.new (w.alloc (.cells #[.int .i64 0] 3)) 22 (.int .u64 s)
  rw [World.size_alloc] at bN
  have hB0 : Below w.heap.size w ((w.alloc (.cells #[.int .i64 0] 3)).alloc (.cells #[.int .u64 s] 22)) := ((Below.refl _ w).alloc (Nat.le_refl _) _).alloc (by simp) _
  refine wpIn_rangeFunc_ownG hro h1 (gf := 42) (lb := #[.pointer (some ⟨w.heap.size + 1, 0, none⟩)]) rfl h5 (enters_of Try.func42 (by kernel_rfl) rfl)
    (elements_stops F (n - 1) h5 hro (by omega) (w.heap.size + 1) w.heap.size s _ bN) kpBox_t (kpBox_b (by simp; omega)) (Below.refl _ _) (fun _ => rfl)
    (LenI w s)
    (fun _ _ _ => False)
    (OwnFrom.and (OwnFrom.and (Own.from (boxed_own _ _ (fun pre : List Nat => .int .i64 (pre.length : Int))) _) (Own.from (boxed_own _ _ _) _)) (ownFrom_below (Nat.le_refl _) (by simp; omega)))
    (fun _ _ _ _ _ hs _ _ => hs)
    ⟨⟨bO.alloc _, bN⟩, hB0⟩
    (fun x => { tmps := #[.int .u64 s, undef, .int .i64 0, .pointer (some ⟨w.heap.size, 0, none⟩), .int .u64 s, .func (.func 42) #[] #[.pointer (some ⟨w.heap.size + 1, 0, none⟩)], .int .i64 x, undef, undef, undef], defers := [] }) ?assign ?body ?done ?stop
  case assign =>
    intro l x W K hK
    gi_wp2
    simpa using hK
  case body =>
    rintro l pre x W ⟨⟨hv, hbx⟩, hB⟩ hlt
    have hc := hv.cell
    have hf := hv.frozen
    gi_wp2
    have e : ((pre ++ [x]).length : Int) = (pre.length : Int) + 1 := by simp
    exact ⟨KeepsFrom.of_grownBy (grownBy_setCell' W _ _) (fun j e => by cases e; simp; omega), ⟨(Below.refl w.heap.size W).setCell (p := ⟨w.heap.size, 0, none⟩) (Nat.le_refl _) _, fun _ => hbx.other (by simp) _⟩, ⟨by rw [e]; exact hv.set _, hbx.other (by simp) _⟩, hB.setCell (p := ⟨w.heap.size, 0, none⟩) (Nat.le_refl _) _⟩
  case done =>
    rintro D ys W hD rfl ⟨⟨hv, hbx⟩, hB⟩ hK
    have hc := hv.cell
    gi_wp2
    refine ⟨by simp, .inl ⟨_, _, rfl, run_takeDeferred hK, ?_⟩⟩
    exact ⟨_, results_tmp rfl _ _ _, rfl, hB.trans (belowK_b (w := w) (Nat.le_refl _) W D _ _ (by simp at hD; omega) hK rfl rfl)⟩
  case stop =>
    rintro D c pre W _ _ h _
    exact h.elim

theorem bitset_Len.calls (a0 : Int) (r : Int) (w : World) (h : bitset_Len.f a0 = some r) :
    Calls Try.prog 23 #[.int .u64 a0] w fun e w' => e = .returned (.int .i64 r) ∧ Below w.heap.size w w' := by
  obtain rfl := Option.some.inj h
  exact (callsIn_wide (n := 3)).1 (bitset_Len.in_ Fence.wide 3 trivial trivial trivial rfl (by omega) a0 w)

end Go.Proofs.Ytmopcjebjbdapaa.Pr
