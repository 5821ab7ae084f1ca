-- Written by a program of this session (the kit's print with mkprint.py's replacements). Lean checks it.
import Derived.Test.YtmopcjebjbdapaaPr0
import Derived.Test.YtmopcjebjbdapaaPr2
import Derived.Test.YtmopcjebjbdapaaIter
namespace Go.Proofs.Ytmopcjebjbdapaa.Pr
open Go.RowKit Go.Proofs.YtmopcjebjbdapaaW.PrintWords Go.Proofs.YtmopcjebjbdapaaW.PrintLast Go.Proofs.YtmopcjebjbdapaaW.PrintMore
attribute [local go_sem] max2_int min2_int max_two min_two max_three min_three max_four min_four   -- for this text's walks alone
set_option linter.unusedVariables false
set_option linter.unusedSimpArgs false

-- STUBBED 25
/-! ### bitset_Least: function 25: by hand -/
open Go.Shelf Go.Proofs.Ytmopcjebjbdapaa.Iter
attribute [local go_sem] Oper.semAt_some

def leastOf (l : List Nat) : Int := match l with | [] => -1 | k :: _ => (k : Int)
def bitset_Least.f (a0 : Int) : Option (Int) := some (leastOf (elemsTo a0 64))
theorem elemsTo_head {s : Int} {x : Nat} : ∀ {k m : Nat}, k ≤ m → elemsTo s k = [x] → leastOf (elemsTo s m) = x := by
  intro k m hkm h
  induction m with
  | zero => obtain rfl : k = 0 := by omega
            rw [h]; rfl
  | succ m ih =>
    by_cases e : k = m + 1
    · subst e; rw [h]; rfl
    · have h2 := ih (by omega)
      cases hb : bitAt s m with
      | false => rw [elemsTo_miss hb]; exact h2
      | true =>
        rw [elemsTo_hit hb]
        cases hl : elemsTo s m with
        | nil => rw [hl] at h2; simp [leastOf] at h2
        | cons y ys => rw [hl] at h2; exact h2

/-- Before the first round: the result's box holds no answer yet. -/
def LeastI (w : World) (s : Int) (pre : List Nat) (W : World) : Prop :=
  ((pre = [] ∧ Boxed W w.heap.size 3 (.int .i64 0)) ∧ Boxed W (w.heap.size + 1) 22 (.int .u64 s)) ∧ Below w.heap.size w W
def LeastX (w : World) (c : Code) (pre : List Nat) (W : World) : Prop :=
  (∃ x : Nat, (c = .ret ∧ pre = [x]) ∧ Boxed W w.heap.size 3 (.int .i64 (x : Int))) ∧ Below w.heap.size w W

theorem leastX_own (w : World) (c : Code) (B : Nat) (h : w.heap.size ≤ B) : OwnFrom B (LeastX w c) :=
  OwnFrom.and (fun s X Y row hs hg hr => by
    obtain ⟨x, hx, hb⟩ := hs
    exact ⟨x, hx, hb.kept hg (fun e' => by
      obtain ⟨_, o, ho, hc⟩ := hr _ e'.symm
      rw [show X.heap[w.heap.size]? = _ from hb] at ho; cases ho; cases hc)⟩) (ownFrom_below (Nat.le_refl _) h)

set_option maxRecDepth 100000 in
set_option maxHeartbeats 4000000 in
theorem bitset_Least.in_ (F : Fence) (n : Nat) (h3 : F.fn 25) (h4 : F.fn 36) (h5 : F.fn 42) (hro : F.round = none) (hn : 3 ≤ n) (s : Int) (w : World) :
    CallsIn F n Try.prog 25 #[.int .u64 s] w fun e W' => e = .returned (.int .i64 (leastOf (elemsTo s 64))) ∧ Below w.heap.size w W' := by
  have h1 : 1 ≤ n := by omega
  refine callsIn_of_wp_marks Try.func25 rfl h3 ?_ hro
  simp only [Try.ntmps25, List.size_toArray, List.length_cons, List.length_nil, Nat.reduceAdd, Nat.reduceSub, Array.replicate_succ, Array.replicate_zero, List.push_toArray, List.append_toArray, List.nil_append, List.cons_append]
  gi_wp2_with (gi_at_call 36; refine (elements_in F (n - 1) h4 hro _ _).mono ?_; rintro e w' ⟨rfl, rfl⟩)
  have bO := Boxed.new w 3 (.int .i64 0)
  have bN := Boxed.new (w.alloc (.cells #[.int .i64 0] 3)) 22 (.int .u64 s)
  rw [World.size_alloc] at bN
  have hB0 : Below w.heap.size w ((w.alloc (.cells #[.int .i64 0] 3)).alloc (.cells #[.int .u64 s] 22)) := ((Below.refl _ w).alloc (Nat.le_refl _) _).alloc (by simp) _
  refine wpIn_rangeFunc_ownG hro h1 (gf := 42) (lb := #[.pointer (some ⟨w.heap.size + 1, 0, none⟩)]) rfl h5 (enters_of Try.func42 (by kernel_rfl) rfl)
    (elements_stops F (n - 1) h5 hro (by omega) (w.heap.size + 1) w.heap.size s _ bN) kpBox_t (kpBox_b (by simp; omega)) (Below.refl _ _) (fun _ => rfl)
    (LeastI w s)
    (LeastX w)
    (OwnFrom.and (OwnFrom.and (OwnFrom.and (ownFrom_pure _ (fun pre : List Nat => pre = [])) (Own.from (boxed_own _ _ _) _)) (Own.from (boxed_own _ _ _) _)) (ownFrom_below (Nat.le_refl _) (by simp; omega)))
    (fun c => leastX_own w c _ (by simp; omega))
    ⟨⟨⟨rfl, bO.alloc _⟩, bN⟩, hB0⟩
    (fun x => { tmps := #[.int .u64 s, undef, .pointer (some ⟨w.heap.size, 0, none⟩), .int .i64 x, .int .u64 s, .func (.func 42) #[] #[.pointer (some ⟨w.heap.size + 1, 0, none⟩)], .int .i64 x, undef], defers := [] }) ?assign ?body ?done ?stop
  case assign =>
    intro l x W K hK
    gi_wp2
    exact hK
  case body =>
    rintro l pre x W ⟨⟨⟨rfl, hv⟩, hbx⟩, hB⟩ hlt
    have hc := hv.cell
    have hf := hv.frozen
    gi_wp2
    exact ⟨KeepsFrom.of_grownBy (grownBy_setCell' W _ _) (fun j e => by cases e; simp; omega), ⟨x, ⟨rfl, rfl⟩, hv.set _⟩, hB.setCell (p := ⟨w.heap.size, 0, none⟩) (Nat.le_refl _) _⟩
  case done =>
    rintro D ys W hD hys ⟨⟨⟨rfl, hv⟩, hbx⟩, hB⟩ hK
    have hc := hv.cell
    have hf := hv.frozen
    have hys' : [] = elemsTo s 64 := hys
    have HY := Lib.hid hys'
    clear hys hys'
    gi_wp2
    have hK' := (KeepsOthers.setCell W ⟨w.heap.size, 0, none⟩ (.int .i64 (-1))).same D _ hK rfl
    refine ⟨by simp, .inl ⟨_, _, rfl, run_takeDeferred hK', ?_⟩⟩
    have hc5 := cell_kept (World.cell?_setCell_same' W ⟨w.heap.size, 0, none⟩ (.int .i64 (-1)) (by rw [hc]; rfl)) (grownBy_putObj' _ D (.deferred none)) (fun r e => by cases e; exact ⟨_, hK', rfl⟩)
    refine ⟨.int .i64 (-1), ?_, by rw [← HY.out]; rfl, (hB.setCell (p := ⟨w.heap.size, 0, none⟩) (Nat.le_refl _) _).trans (belowK_b (w := w) (Nat.le_refl _) _ D _ _ (by simp at hD; omega) hK' rfl rfl)⟩
    simp [results, Try.f25, go_sem, hc5]
  case stop =>
    rintro D c pre W hD ⟨k, hk, _, hpre⟩ ⟨⟨x, ⟨rfl, rfl⟩, hv⟩, hB⟩ hK
    have hx : leastOf (elemsTo s 64) = x := elemsTo_head (by omega) hpre.symm
    have hc := hv.cell
    have HX := Lib.hid hx
    clear hx hpre
    gi_wp2
    refine ⟨by simp, .inl ⟨_, _, rfl, run_takeDeferred hK, ?_⟩⟩
    have hc5 := cell_kept hc (grownBy_putObj' _ D (.deferred none)) (fun r e => by cases e; exact ⟨_, hK, rfl⟩)
    refine ⟨.int .i64 (x : Int), ?_, by rw [HX.out], hB.trans (belowK_b (w := w) (Nat.le_refl _) W D _ _ (by simp at hD; omega) hK rfl rfl)⟩
    simp [results, Try.f25, go_sem, hc5]

theorem bitset_Least.calls (a0 : Int) (r : Int) (w : World) (h : bitset_Least.f a0 = some r) :
    Calls Try.prog 25 #[.int .u64 a0] w fun e w' => e = .returned (.int .i64 r) ∧ Below w.heap.size w w' := by
  obtain rfl := Option.some.inj h
  exact (callsIn_wide (n := 3)).1 (bitset_Least.in_ Fence.wide 3 trivial trivial trivial rfl (by omega) a0 w)

end Go.Proofs.Ytmopcjebjbdapaa.Pr
