/- Functions that the statement reaches: what each answers, and that the program answers it (written by a program of this work). -/
import Derived.Test.YtejchnmhlcbfcaaDoorProg
import Derived.Below
import Derived.Deep.Draws
import Derived.Deep.AppendLies
import Derived.Maps.AppendAt
import Derived.OwnWalk
import Derived.Laws.BytesArg
import Derived.Laws.MakeOwn
import Derived.Laws.OwnMore
import Derived.Deep.OwnRows
import Derived.Tactics
import Derived.Lib.ConvBytes
import Derived.Laws.Slices
import Derived.WalkKit
import Derived.KernelRfl
import Derived.RowKit3
import Derived.Deep.LoopGhost
import Derived.Deep.QuietTactic
import Derived.BigQuiet
import Derived.WideLaws
import Derived.Deep.DeepCutAuto
import Derived.Deep.CutBlock
import Derived.Deep.RegionHeld3
import Derived.Laws.Rows
import Derived.Lib.AppendStr
import Derived.ArgAppend
import Derived.Laws.IdiomCopy
import Derived.OrdersHeld
import Derived.Laws.BitsLemmas
import Derived.RowKit
import Derived.WalkMore
import Derived.ChangeKeysEq
import Derived.Test.YtejchnmhlcbfcaaDoorVDiscoverNets
import Derived.Test.YtejchnmhlcbfcaaDoorBDiscoverNets
import Derived.LoopTactic
import Derived.BigGuardPart
import Derived.LoopN
namespace Go.Proofs.YtejchnmhlcbfcaaDoor.Pr
open Go.RowKit Go.Proofs.YtejchnmhlcbfcaaDoorW.PrintWords Go.Proofs.YtejchnmhlcbfcaaDoorW.PrintLast Go.Proofs.YtejchnmhlcbfcaaDoorW.PrintMore
attribute [local go_sem] Instr.field asAgg
attribute [local go_sem] max2_int min2_int max_two min_two max_three min_three max_four min_four   -- for this text's walks alone
set_option linter.unusedVariables false
set_option linter.unusedSimpArgs false
/-! ### Side goals that stand in every row -/
theorem bB {P Q : Prop} (h : P) (hh : P → Q := by intro h_; repeat (first | (with_reducible first | exact h_ | apply below_alloc | apply pw_below_drewN | apply below_drew1) | exact h_)) : Q := hh h
theorem bB1 {P G Q : Prop} (h : P) (g : G) (hh : P → G → Q := by intro h_ g_; repeat (first | (with_reducible first | exact h_ | apply below_alloc | apply pw_below_drewN | apply below_drew1 | refine below_set ?_ g_) | exact h_)) : Q := hh h g
theorem bB2 {P G G' Q : Prop} (h : P) (g : G) (g' : G') (hh : P → G → G' → Q := by intro h_ g_ g1_; repeat (first | (with_reducible first | exact h_ | apply below_alloc | apply pw_below_drewN | apply below_drew1 | refine below_set ?_ g_ | refine below_set ?_ g1_) | exact h_)) : Q := hh h g g'
theorem kB {P Q : Prop} (h : P) (hh : P → Q := by intro h_; (with_reducible repeat (first | refine blk_drewN ?_ _ | refine blk_drew ?_ | refine blk_alloc ?_ _)); exact h_) : Q := hh h
theorem kW {w W w' : World} {g : Nat} {o : Obj} (h : w.heap[g]? = some o) (b : Below W.heap.size W w') (hh : w.heap[g]? = some o → W.heap[g]? = some o := by intro h_; (with_reducible repeat (first | refine blk_drewN ?_ _ | refine blk_drew ?_ | refine blk_alloc ?_ _)); exact h_) : w'.heap[g]? = some o := blk_below (hh h) b
theorem kL {w W : World} {g : Nat} {o : Obj} (h : w.heap[g]? = some o) (hh : w.heap[g]? = some o → W.heap[g]? = some o := by intro h_; (with_reducible repeat (first | refine blk_drewN ?_ _ | refine blk_drew ?_ | refine blk_alloc ?_ _)); exact h_) : g < W.heap.size := blk_lt (hh h)
theorem cB {P B Q : Prop} (h : P) (b : B) (hh : P → B → Q := by intro h_ b_; repeat (first | exact (Kd.C_below h_ b_) | (with_reducible refine Kd.C_alloc ?_ _) | (with_reducible refine Kd.C_drewN ?_ _) | (with_reducible refine Kd.C_drew ?_))) : Q := hh h b
theorem dT {p : Prop} [Decidable p] (h : decide p = true := by first | (with_reducible assumption) | assumption) : p := of_decide_eq_true h
theorem eT {p : Prop} (h : p := by first | rfl | (simp; done) | (simp [*]; done) | (simp [i64_w]; done)) : p := h
theorem mT {p : Prop} (h : p := by (try simp only [List.map_toArray, List.map_cons, List.map_nil]); first | done | rfl | (simp only [List.length_drop, List.length_take]; rfl)) : p := h
theorem pT {p : Prop} (h : p := by simp only [Act.put, List.setIfInBounds_toArray, List.set_cons_zero, List.set_cons_succ, i64_w, i32_w]; rfl) : p := h
theorem qT {p : Prop} (h : p := by intro w'; go_simp; with_reducible rfl) : p := h
theorem rT {p : Prop} (h : p := by first | rfl | (simp [errW_none, errW_some] <;> rfl) | (simp [*, errW_none, errW_some] <;> rfl)) : p := h
theorem bB3 {P G G' G2 Q : Prop} (h : P) (g : G) (g' : G') (g2 : G2) (hh : P → G → G' → G2 → Q := by intro h_ g_ g1_ g2_; repeat (first | (with_reducible first | exact h_ | apply below_alloc | apply pw_below_drewN | apply below_drew1 | refine below_set ?_ g_ | refine below_set ?_ g1_ | refine below_set ?_ g2_) | exact h_)) : Q := hh h g g' g2
theorem bB4 {P G G' G2 G3 Q : Prop} (h : P) (g : G) (g' : G') (g2 : G2) (g3 : G3) (hh : P → G → G' → G2 → G3 → Q := by intro h_ g_ g1_ g2_ g3_; repeat (first | (with_reducible first | exact h_ | apply below_alloc | apply pw_below_drewN | apply below_drew1 | refine below_set ?_ g_ | refine below_set ?_ g1_ | refine below_set ?_ g2_ | refine below_set ?_ g3_) | exact h_)) : Q := hh h g g' g2 g3
theorem kR {P Q : Prop} (h : P) (hh : P → Q := by intro h_; (with_reducible repeat (first | refine blk_drewN ?_ _ | refine blk_drew ?_ | refine blk_alloc ?_ _)); exact h_) : Q := hh h
theorem oR {P Q : Prop} (h : P) (hh : P → Q := by intro h_; (with_reducible repeat (first | apply Kd.R_alloc | apply Kd.R_drewN | apply Kd.R_drew)); exact h_) : Q := hh h
theorem oN {P Q : Prop} (h : P) (hh : P → Q := by intro h_; (with_reducible repeat (first | apply Kd.N_alloc | apply Kd.N_drewN | apply Kd.N_drew)); exact h_) : Q := hh h
theorem oS {P Q : Prop} (h : P) (hh : P → Q := by intro h_; (with_reducible repeat (first | apply Kd.S_alloc | apply Kd.S_drewN | apply Kd.S_drew)); exact h_) : Q := hh h
theorem oV {P Q : Prop} (h : P) (hh : P → Q := by intro h_; (with_reducible repeat (first | apply Kd.V_alloc | apply Kd.V_drewN | apply Kd.V_drew)); exact h_) : Q := hh h
theorem oQ {P Q : Prop} (h : P) (hh : P → Q := by intro h_; (with_reducible repeat (first | apply Kd.Q_alloc | apply Kd.Q_drewN | apply Kd.Q_drew)); exact h_) : Q := hh h
theorem oF {P Q : Prop} (h : P) (hh : P → Q := by intro h_; (with_reducible repeat (first | apply Kd.F_alloc | apply Kd.F_drewN | apply Kd.F_drew)); exact h_) : Q := hh h
theorem tR {α : Type} {d : Kd α} {e base g t : Nat} {ok : Nat → Prop} {w W : World} {v : Value} {xs : List α} {cells : Array Value} (h : d.R e w base ok v xs) (b : w.heap[g]? = some (.cells cells t (0, 0))) (ht : ∀ q, q ∈ e :: d.E → q ≠ t := by decide) (hh : d.R e w base (fun k => ok k ∧ k ≠ g) v xs → d.R e W base (fun k => ok k ∧ k ≠ g) v xs := by intro h_; repeat (first | with_reducible exact h_ | with_reducible refine Kd.R_far (p := ⟨_, _, none⟩) ?_ (fun _ hk => hk.2) _ | refine Kd.R_far (p := ⟨_, _, none⟩) ?_ (fun _ hk => hk.2) _ | exact h_)) : d.R e W base ok v xs := Kd.R_mono (hh (Kd.R_types h b ht)) (fun _ q => q.1)
theorem uR {α : Type} {d : Kd α} {e base : Nat} {ok : Nat → Prop} {w W : World} {v : Value} {xs : List α} (g : Nat) (h : d.R e w base ok v xs) (hk : ∀ k, ok k → k ≠ g := by intro _ q_; exact q_.2) (hh : d.R e w base (fun k => ok k ∧ k ≠ g) v xs → d.R e W base (fun k => ok k ∧ k ≠ g) v xs := by intro h_; repeat (first | with_reducible exact h_ | with_reducible refine Kd.R_far (p := ⟨_, _, none⟩) ?_ (fun _ hk => hk.2) _ | refine Kd.R_far (p := ⟨_, _, none⟩) ?_ (fun _ hk => hk.2) _ | exact h_)) : d.R e W base ok v xs := Kd.R_mono (hh (Kd.R_mono h (fun k q => ⟨q, hk k q⟩))) (fun _ q => q.1)
theorem fA {P G Q : Prop} (h : P) (g : G) (hh : P → G → Q := by intro h_ g_; first | exact Nat.ne_of_lt (Nat.lt_of_lt_of_le (by have := World.block_lt_of_cell? _ _ h_; first | rwa [add_block] at this | exact this) g_) | (rw [add_block]; exact Nat.ne_of_lt (Nat.lt_of_lt_of_le (by have := World.block_lt_of_cell? _ _ h_; first | rwa [add_block] at this | exact this) g_)) | (show (Addr.add _ _).block ≠ _; rw [add_block]; exact Nat.ne_of_lt (Nat.lt_of_lt_of_le (by have := World.block_lt_of_cell? _ _ h_; first | rwa [add_block] at this | exact this) g_)) | (dsimp only; exact Nat.ne_of_lt (Nat.lt_of_lt_of_le (by have := World.block_lt_of_cell? _ _ h_; first | rwa [add_block] at this | exact this) g_))) : Q := hh h g
theorem fB {P Q : Prop} (h : P) (hh : P → Q := by intro h_; first | exact h_ | (rw [add_block]; exact h_) | (show (Addr.add _ _).block ≠ _; rw [add_block]; exact h_) | (dsimp only; exact h_)) : Q := hh h
theorem aM {p : Prop} (h : p) : Aside0 p := Aside0.mk h
theorem pU {P : Program} {ops : Array Oper} {Q : Exit → Act → World → Prop} {md : Region.Mode} {S : World → Prop} {ds : List Nat} {oi : Oper} {v : Value} {fuel : Nat} {l : Array Bool} {a a' : Act} {w : World} (i : Nat) (N : Tmp) (hc : anyB md ops l (l.setIfInBounds i true) i = true) (h : wpAnyLast P md ops Q S ds fuel (l.setIfInBounds i true) a' w) (hi : ops[i]? = some oi := by rfl) (hN : oi.dst = some N := by rfl) (hy : Yields P ops oi v a := by refine Or.inl ⟨by rfl, ?_⟩; intro w'; go_simp; with_reducible rfl) (ha : a.put (some N) v = a' := by simp only [Act.put, List.setIfInBounds_toArray, List.set_cons_zero, List.set_cons_succ, i64_w, i32_w]; rfl) (hQ : ∀ c a w, Q (.panic c) (a.put oi.dst v) w → Q (.panic c) a w := by exact fun _ _ _ h => h) : wpAnyLast P md ops Q S ds (fuel + 1) l a w := pure_ _ hi hN hc hQ hy ha h
theorem tU {P : Program} {ops : Array Oper} {Q : Exit → Act → World → Prop} {md : Region.Mode} {S : World → Prop} {ds : List Nat} {oi : Oper} {v : Value} {fuel : Nat} {l : Array Bool} {a a' : Act} {w : World} (i : Nat) (N : Tmp) (hc : takeB md ops ds l (l.setIfInBounds i true) i = true) (hS : S w) (h : wpAnyLast P md ops Q S ds fuel (l.setIfInBounds i true) a' w) (hi : ops[i]? = some oi := by rfl) (hN : oi.dst = some N := by rfl) (hy : YieldsIf P ops S oi v a := by refine Or.inl ⟨by rfl, ?_⟩; intro w' s_; (repeat (obtain ⟨q_, s_⟩ := s_)); go_simp; with_reducible rfl) (ha : a.put (some N) v = a' := by simp only [Act.put, List.setIfInBounds_toArray, List.set_cons_zero, List.set_cons_succ, i64_w, i32_w]; rfl) (hQ : ∀ c a w, Q (.panic c) (a.put oi.dst v) w → Q (.panic c) a w := by exact fun _ _ _ h => h) : wpAnyLast P md ops Q S ds (fuel + 1) l a w := take_ _ hi hN hc hQ hy hS ha h
theorem nU {P : Program} {ops : Array Oper} {Q : Exit → Act → World → Prop} {md : Region.Mode} {S : World → Prop} {ds : List Nat} {v : Value} {fuel : Nat} {l : Array Bool} {a a0 a' : Act} {w : World} (N : Tmp) (h : wpAnyLast P md ops Q S ds fuel l a' w) (hN : a = Act.put a0 (some N) v := by rfl) (ha : Act.put a0 (some N) v = a' := by simp only [Act.put, List.setIfInBounds_toArray, List.set_cons_zero, List.set_cons_succ, i64_w, i32_w]; rfl) : wpAnyLast P md ops Q S ds fuel l a w := norm_ (hN.trans ha) h
theorem yT {α : Type} {y e : α} {P Q : Prop} (hy : y = e) (h : P) (hh : y = e → P → Q := by intro hy_ H; first | (rw [hy_]; with_reducible exact H) | (have H2_ := (Option.bind_some _ _).symm.trans H; rw [hy_]; with_reducible exact H2_) | (have H2_ := (Option.bind_some _ _).symm.trans H; with_reducible exact H2_) | with_reducible exact H | (rw [hy_]; exact H) | exact H) : Q := hh hy h
section
variable {w : World} {g t : Nat} {a b c d e : Value} {l : List Value}
theorem cz0 (h : w.heap[g]? = some (.cells (List.toArray (a :: l)) t (0, 0))) : w.cell? ⟨g, 0, none⟩ = some a := (blk_cell h 0).trans rfl
theorem cz1 (h : w.heap[g]? = some (.cells (List.toArray (a :: b :: l)) t (0, 0))) : w.cell? ⟨g, 1, none⟩ = some b := (blk_cell h 1).trans rfl
theorem cz2 (h : w.heap[g]? = some (.cells (List.toArray (a :: b :: c :: l)) t (0, 0))) : w.cell? ⟨g, 2, none⟩ = some c := (blk_cell h 2).trans rfl
theorem cz3 (h : w.heap[g]? = some (.cells (List.toArray (a :: b :: c :: d :: l)) t (0, 0))) : w.cell? ⟨g, 3, none⟩ = some d := (blk_cell h 3).trans rfl
theorem cz4 (h : w.heap[g]? = some (.cells (List.toArray (a :: b :: c :: d :: e :: l)) t (0, 0))) : w.cell? ⟨g, 4, none⟩ = some e := (blk_cell h 4).trans rfl
theorem cd1 (h : w.heap[g]? = some (.cells (List.toArray (a :: l)) t (0, 0))) : w.cell? ⟨g, 0, none⟩ = some a ∧ w.frozen? ⟨g, 0, none⟩ = false := ⟨cz0 h, blk_frozen h _⟩
theorem cd2 (h : w.heap[g]? = some (.cells (List.toArray (a :: b :: l)) t (0, 0))) : w.cell? ⟨g, 0, none⟩ = some a ∧ w.cell? ⟨g, 1, none⟩ = some b ∧ w.frozen? ⟨g, 0, none⟩ = false ∧ w.frozen? ⟨g, 1, none⟩ = false := ⟨cz0 h, cz1 h, blk_frozen h _, blk_frozen h _⟩
theorem cd3 (h : w.heap[g]? = some (.cells (List.toArray (a :: b :: c :: l)) t (0, 0))) : w.cell? ⟨g, 0, none⟩ = some a ∧ w.cell? ⟨g, 1, none⟩ = some b ∧ w.cell? ⟨g, 2, none⟩ = some c ∧ w.frozen? ⟨g, 0, none⟩ = false ∧ w.frozen? ⟨g, 1, none⟩ = false ∧ w.frozen? ⟨g, 2, none⟩ = false := ⟨cz0 h, cz1 h, cz2 h, blk_frozen h _, blk_frozen h _, blk_frozen h _⟩
theorem cd4 (h : w.heap[g]? = some (.cells (List.toArray (a :: b :: c :: d :: l)) t (0, 0))) : w.cell? ⟨g, 0, none⟩ = some a ∧ w.cell? ⟨g, 1, none⟩ = some b ∧ w.cell? ⟨g, 2, none⟩ = some c ∧ w.cell? ⟨g, 3, none⟩ = some d ∧ w.frozen? ⟨g, 0, none⟩ = false ∧ w.frozen? ⟨g, 1, none⟩ = false ∧ w.frozen? ⟨g, 2, none⟩ = false ∧ w.frozen? ⟨g, 3, none⟩ = false := ⟨cz0 h, cz1 h, cz2 h, cz3 h, blk_frozen h _, blk_frozen h _, blk_frozen h _, blk_frozen h _⟩
theorem cd5 (h : w.heap[g]? = some (.cells (List.toArray (a :: b :: c :: d :: e :: l)) t (0, 0))) : w.cell? ⟨g, 0, none⟩ = some a ∧ w.cell? ⟨g, 1, none⟩ = some b ∧ w.cell? ⟨g, 2, none⟩ = some c ∧ w.cell? ⟨g, 3, none⟩ = some d ∧ w.cell? ⟨g, 4, none⟩ = some e ∧ w.frozen? ⟨g, 0, none⟩ = false ∧ w.frozen? ⟨g, 1, none⟩ = false ∧ w.frozen? ⟨g, 2, none⟩ = false ∧ w.frozen? ⟨g, 3, none⟩ = false ∧ w.frozen? ⟨g, 4, none⟩ = false := ⟨cz0 h, cz1 h, cz2 h, cz3 h, cz4 h, blk_frozen h _, blk_frozen h _, blk_frozen h _, blk_frozen h _, blk_frozen h _⟩
end
theorem gE {n g m : Nat} (hg : g = m) (h : n ≤ m) : n ≤ g := hg ▸ h
theorem gL {n g m : Nat} (hg : g = m) (h : n < m) : n ≠ g := fun q => absurd (q.trans hg) (Nat.ne_of_lt h)
theorem gG {n g m : Nat} (hg : g = m) (h : n < m) : g ≠ n := fun q => gL hg h q.symm
theorem iP {α : Type} {c : Prop} [Decidable c] {x : Option α} {r : α} (h : (if c then x else none) = some r) : c ∧ x = some r := by
  by_cases q : c
  · rw [if_pos q] at h; exact ⟨q, h⟩
  · rw [if_neg q] at h; cases h
theorem iN {α : Type} {c : Prop} [Decidable c] {x : Option α} {r : α} (h : (if c then none else x) = some r) : ¬c ∧ x = some r := by
  by_cases q : c
  · rw [if_pos q] at h; cases h
  · rw [if_neg q] at h; exact ⟨q, h⟩
theorem iB {α β : Type} {o : Option α} {f : α → Option β} {r : β} (h : o.bind f = some r) : ∃ a, Aside0 (o = some a) ∧ f a = some r := let ⟨a, p, q⟩ := Option.bind_eq_some_iff.mp h; ⟨a, ⟨p⟩, q⟩
theorem nT {p : Prop} (h : p := by first | exact Kd.R_nil _ _ _ _ _ | exact Kd.N_nil _ _ _ _ _ | exact Kd.V_nil _ _ _ _ _ | exact Kd.Q_nil _ _ _ _ _ | exact Kd.S_nil _ _ _ _ _) : p := h
theorem gM {P : Program} {ops : Array Oper} {Q : Exit → Act → World → Prop} {rest : List Oper} {oi : Oper} {a : Act} {w : World} (N : Option Tmp) {f : FuncId} {fn : Func} {as_ : Array Operand} {ts : Array TypeId} (hf : P.funcs[f]? = some fn) (args : Array Value) (h : Calls P f args w fun e w' => ∃ v, e = .returned v ∧ wpList P ops Q rest (a.put N v) w') (hd : oi.dst = N := by rfl) (hg : oi.guard = none := by rfl) (hop : oi.op = .call { callee := .value (.func f), args := as_, argTypes := ts } := by rfl) (hargs : as_.map a.eval = args := by (try simp only [List.map_toArray, List.map_cons, List.map_nil]); first | done | rfl | (simp only [List.length_drop, List.length_take]; rfl)) (hname : (fn.name == "runtime.NumGoroutine") = false := by kernel_rfl) (hb : fn.body.isSome = true := by rfl) : wpList P ops Q (oi :: rest) a w := goesL_ N hd hg hf hname hb args hop hargs h
theorem bX {P : Program} {ops : Array Oper} {Q : Exit → Act → World → Prop} {rest : List Oper} {o : Oper} {a : Act} {W : World} (N : Tmp) {cs : Array Value} {t : TypeId} (h : ∀ g, g = W.heap.size → ∀ w1, w1.heap[g]? = some (.cells cs t (0, 0)) → Below W.heap.size W w1 → wpList P ops Q rest (a.put o.dst (.pointer (some ⟨g, 0, none⟩))) w1) (hd : o.dst = some N := by rfl) (hgd : o.guard = none := by rfl) (hrun : (execOp a.eval o).run P W = .ok (.value (.pointer (some ⟨W.heap.size, 0, none⟩))) (W.alloc (.cells cs t (0, 0))) := by first | (go_simp; done) | (go_simp; rfl)) : wpList P ops Q (o :: rest) a W := box_event hgd hd hrun h
theorem sR {α : Type} {d : Kd α} {e base g t : Nat} {ok : Nat → Prop} {w W : World} {v : Value} {xs : List α} {cells : Array Value} (h : Kd.S d e w base ok v xs) (b : w.heap[g]? = some (.cells cells t (0, 0))) (ht : ∀ q, q ∈ e :: d.E → q ≠ t := by decide) (hh : Kd.S d e w base (fun k => ok k ∧ k ≠ g) v xs → Kd.S d e W base (fun k => ok k ∧ k ≠ g) v xs := by intro h_; repeat (first | with_reducible exact h_ | with_reducible refine Kd.S_far (p := ⟨_, _, none⟩) ?_ (fun _ hk => hk.2) _ | refine Kd.S_far (p := ⟨_, _, none⟩) ?_ (fun _ hk => hk.2) _ | exact h_)) : Kd.S d e W base ok v xs := Kd.S_mono (hh (Kd.S_types h b ht)) (fun _ q => q.1)
theorem sU {α : Type} {d : Kd α} {e base : Nat} {ok : Nat → Prop} {w W : World} {v : Value} {xs : List α} (g : Nat) (h : Kd.S d e w base ok v xs) (hk : ∀ k, ok k → k ≠ g := by intro _ q_; exact q_.2) (hh : Kd.S d e w base (fun k => ok k ∧ k ≠ g) v xs → Kd.S d e W base (fun k => ok k ∧ k ≠ g) v xs := by intro h_; repeat (first | with_reducible exact h_ | with_reducible refine Kd.S_far (p := ⟨_, _, none⟩) ?_ (fun _ hk => hk.2) _ | refine Kd.S_far (p := ⟨_, _, none⟩) ?_ (fun _ hk => hk.2) _ | exact h_)) : Kd.S d e W base ok v xs := Kd.S_mono (hh (Kd.S_mono h (fun k q => ⟨q, hk k q⟩))) (fun _ q => q.1)
theorem tM {α : Type} {d : Kd α} {e base g t : Nat} {ok ok' : Nat → Prop} {w W : World} {v : Value} {xs : List α} {cells : Array Value} (h : d.R e w base ok v xs) (b : w.heap[g]? = some (.cells cells t (0, 0))) (q : ∀ k, ok k ∧ k ≠ g → ok' k) (ht : ∀ q, q ∈ e :: d.E → q ≠ t := by decide) (hh : d.R e w base (fun k => ok k ∧ k ≠ g) v xs → d.R e W base (fun k => ok k ∧ k ≠ g) v xs := by intro h_; repeat (first | with_reducible exact h_ | with_reducible refine Kd.R_far (p := ⟨_, _, none⟩) ?_ (fun _ hk => hk.2) _ | refine Kd.R_far (p := ⟨_, _, none⟩) ?_ (fun _ hk => hk.2) _ | exact h_)) : d.R e W base ok' v xs := Kd.R_mono (hh (Kd.R_types h b ht)) q
theorem sM {α : Type} {d : Kd α} {e base g t : Nat} {ok ok' : Nat → Prop} {w W : World} {v : Value} {xs : List α} {cells : Array Value} (h : Kd.S d e w base ok v xs) (b : w.heap[g]? = some (.cells cells t (0, 0))) (q : ∀ k, ok k ∧ k ≠ g → ok' k) (ht : ∀ q, q ∈ e :: d.E → q ≠ t := by decide) (hh : Kd.S d e w base (fun k => ok k ∧ k ≠ g) v xs → Kd.S d e W base (fun k => ok k ∧ k ≠ g) v xs := by intro h_; repeat (first | with_reducible exact h_ | with_reducible refine Kd.S_far (p := ⟨_, _, none⟩) ?_ (fun _ hk => hk.2) _ | refine Kd.S_far (p := ⟨_, _, none⟩) ?_ (fun _ hk => hk.2) _ | exact h_)) : Kd.S d e W base ok' v xs := Kd.S_mono (hh (Kd.S_types h b ht)) q
theorem tT {α : Type} {d : Kd α} {e base g t : Nat} {ok : Nat → Prop} {w W : World} {v : Value} {xs : List α} {cells : Array Value} (h : d.R e w base ok v xs) (b : w.heap[g]? = some (.cells cells t (0, 0))) (ht : ∀ q, q ∈ e :: d.E → q ≠ t := by decide) (hh : d.R e w base (fun k => ok k ∧ k ≠ g) v xs → d.R e W base (fun k => ok k ∧ k ≠ g) v xs := by intro h_; repeat (first | with_reducible exact h_ | with_reducible refine Kd.R_far (p := ⟨_, _, none⟩) ?_ (fun _ hk => hk.2) _ | refine Kd.R_far (p := ⟨_, _, none⟩) ?_ (fun _ hk => hk.2) _ | exact h_)) : d.R e W base (fun _ => True) v xs := Kd.R_mono (hh (Kd.R_types h b ht)) (fun _ _ => trivial)
theorem sT {α : Type} {d : Kd α} {e base g t : Nat} {ok : Nat → Prop} {w W : World} {v : Value} {xs : List α} {cells : Array Value} (h : Kd.S d e w base ok v xs) (b : w.heap[g]? = some (.cells cells t (0, 0))) (ht : ∀ q, q ∈ e :: d.E → q ≠ t := by decide) (hh : Kd.S d e w base (fun k => ok k ∧ k ≠ g) v xs → Kd.S d e W base (fun k => ok k ∧ k ≠ g) v xs := by intro h_; repeat (first | with_reducible exact h_ | with_reducible refine Kd.S_far (p := ⟨_, _, none⟩) ?_ (fun _ hk => hk.2) _ | refine Kd.S_far (p := ⟨_, _, none⟩) ?_ (fun _ hk => hk.2) _ | exact h_)) : Kd.S d e W base (fun _ => True) v xs := Kd.S_mono (hh (Kd.S_types h b ht)) (fun _ _ => trivial)
theorem aT {i n : Int} {X : Prop} (f : 0 ≤ i → i < n → X) (h0 : 0 ≤ i := by exact dT) (h1 : i < n := by exact dT) : (0 ≤ i) = True ∧ (i < n) = True ∧ X := ⟨eq_true h0, eq_true h1, f h0 h1⟩
theorem aQ (i n : Int) (h0 : 0 ≤ i := by exact dT) (h1 : i < n := by exact dT) : (0 ≤ i) = True ∧ (i < n) = True := ⟨eq_true h0, eq_true h1⟩
theorem kX {w w1 : World} {ad : Addr} {v : Value} (h : Below w.heap.size w w1) (hx : w.cell? ad = some v) : w1.cell? ad = some v := (h.cell (World.block_lt_of_cell? w _ hx)).trans hx
theorem bP {g t t' : Nat} {w W : World} {cs cs' C : Array Value} (h : w.heap[g]? = some (.cells cs t (0, 0))) (hh : w.heap[g]? = some (.cells cs t (0, 0)) → W.heap[g]? = some (.cells C t' (0, 0)) := by intro h_; repeat (with_reducible first | exact h_ | refine blk_drewN ?_ _ | refine blk_drew ?_ | refine blk_alloc ?_ _ | apply blk_set)) (hc : C = cs' := by rfl) : W.heap[g]? = some (.cells cs' t' (0, 0)) := hc ▸ hh h
theorem bF {P N Q : Prop} (h : P) (n : N) (hh : P → N → Q := by intro h_ n_; repeat (first | (with_reducible first | exact h_ | refine blk_drewN ?_ _ | refine blk_drew ?_ | refine blk_alloc ?_ _ | refine blk_far ?_ n_ _) | refine blk_far ?_ n_ _)) : Q := hh h n



def errW : Option Int → Value
 | none => .nilIface
 | some c => .iface 0 (.int .i64 c)
theorem errW_none : errW none = .nilIface := rfl
theorem errW_some (c : Int) : errW (some c) = .iface 0 (.int .i64 c) := rfl

theorem info3 : (Tryd.prog.info? 3).map (fun i => (i.zero, i.size, i.bytes)) = some (some (.int .i64 0), 1, 8) := by kernel_rfl
theorem info9 : (Tryd.prog.info? 9).map (fun i => (i.zero, i.size, i.bytes)) = some (some (.string ⟨#[]⟩), 1, 16) := by kernel_rfl
theorem info34 : (Tryd.prog.info? 34).map (fun i => (i.zero, i.size, i.bytes)) = some (some (.slice none 0 0), 1, 24) := by kernel_rfl
theorem info36 : (Tryd.prog.info? 36).map (fun i => (i.zero, i.size, i.bytes)) = some (some (.slice none 0 0), 1, 24) := by kernel_rfl
theorem info41 : (Tryd.prog.info? 41).map (fun i => (i.zero, i.size, i.bytes)) = some (some (.agg #[(.string ⟨#[]⟩), (.slice none 0 0), (.slice none 0 0), (.slice none 0 0), (.int .i64 0)]), 5, 96) := by kernel_rfl
theorem info57 : (Tryd.prog.info? 57).map (fun i => (i.zero, i.size, i.bytes)) = some (some (.agg #[(.int .u64 0), (.int .u64 0)]), 2, 16) := by kernel_rfl
theorem info59 : (Tryd.prog.info? 59).map (fun i => (i.zero, i.size, i.bytes)) = some (some (.agg #[(.string ⟨#[]⟩), (.int .i64 0), (.int .i64 0)]), 3, 32) := by kernel_rfl
theorem info62 : (Tryd.prog.info? 62).map (fun i => (i.zero, i.size, i.bytes)) = some (some (.agg #[(.int .i64 0), (.int .i64 0)]), 2, 16) := by kernel_rfl
theorem info76 : (Tryd.prog.info? 76).map (fun i => (i.zero, i.size, i.bytes)) = some (some (.agg #[(.int .u64 0), (.int .u64 0)]), 2, 16) := by kernel_rfl
-- the values' own types
def rd_L1 (xs : List (List ByteArray)) (i : Int) : (List ByteArray) := xs.getD i.toNat ([] : List ByteArray)
theorem at_L1 {w : World} {A : Option Addr} {n : Nat} {xs : List (List ByteArray)} (h : Kd.C (Kd.slice 9 Kd.string) w A n xs) (i : Int) (h0 : 0 ≤ i) (h1 : i < n) : ∃ ad A0 c0, A = some ad ∧ w.cell? (ad.add i.toNat) = some (.slice A0 (rd_L1 xs i).length c0) ∧ (rd_L1 xs i).length ≤ c0 ∧ Kd.string.C w A0 (rd_L1 xs i).length (rd_L1 xs i) := by
 obtain ⟨ad, c, e, _, hK, hc0⟩ := Kd.C_get h ([] : List ByteArray) i h0 h1
 have hc : ∀ j u, c[j]? = some u → w.cell? (ad.add (i.toNat * 1 + j)) = some u := hc0
 obtain ⟨A0, c0, rfl, l0, g0⟩ := hK
 exact ⟨ad, A0, c0, e, by have hq := hc 0 _ rfl; rwa [Nat.mul_one, Nat.add_zero] at hq, l0, g0⟩

def rd_L3 (xs : List (List (List ByteArray))) (i : Int) : (List (List ByteArray)) := xs.getD i.toNat ([] : List (List ByteArray))
theorem at_L3 {w : World} {A : Option Addr} {n : Nat} {xs : List (List (List ByteArray))} (h : Kd.C (Kd.slice 34 (Kd.slice 9 Kd.string)) w A n xs) (i : Int) (h0 : 0 ≤ i) (h1 : i < n) : ∃ ad A0 c0, A = some ad ∧ w.cell? (ad.add i.toNat) = some (.slice A0 (rd_L3 xs i).length c0) ∧ (rd_L3 xs i).length ≤ c0 ∧ (Kd.slice 9 Kd.string).C w A0 (rd_L3 xs i).length (rd_L3 xs i) := by
 obtain ⟨ad, c, e, _, hK, hc0⟩ := Kd.C_get h ([] : List (List ByteArray)) i h0 h1
 have hc : ∀ j u, c[j]? = some u → w.cell? (ad.add (i.toNat * 1 + j)) = some u := hc0
 obtain ⟨A0, c0, rfl, l0, g0⟩ := hK
 exact ⟨ad, A0, c0, e, by have hq := hc 0 _ rfl; rwa [Nat.mul_one, Nat.add_zero] at hq, l0, g0⟩

def rd_L5 (xs : List (List Int)) (i : Int) : (List Int) := xs.getD i.toNat ([] : List Int)
theorem at_L5 {w : World} {A : Option Addr} {n : Nat} {xs : List (List Int)} (h : Kd.C (Kd.slice 3 (Kd.int .i64)) w A n xs) (i : Int) (h0 : 0 ≤ i) (h1 : i < n) : ∃ ad A0 c0, A = some ad ∧ w.cell? (ad.add i.toNat) = some (.slice A0 (rd_L5 xs i).length c0) ∧ (rd_L5 xs i).length ≤ c0 ∧ (Kd.int .i64).C w A0 (rd_L5 xs i).length (rd_L5 xs i) := by
 obtain ⟨ad, c, e, _, hK, hc0⟩ := Kd.C_get h ([] : List Int) i h0 h1
 have hc : ∀ j u, c[j]? = some u → w.cell? (ad.add (i.toNat * 1 + j)) = some u := hc0
 obtain ⟨A0, c0, rfl, l0, g0⟩ := hK
 exact ⟨ad, A0, c0, e, by have hq := hc 0 _ rfl; rwa [Nat.mul_one, Nat.add_zero] at hq, l0, g0⟩

def rd_L6 (xs : List (List (List Int))) (i : Int) : (List (List Int)) := xs.getD i.toNat ([] : List (List Int))
theorem at_L6 {w : World} {A : Option Addr} {n : Nat} {xs : List (List (List Int))} (h : Kd.C (Kd.slice 36 (Kd.slice 3 (Kd.int .i64))) w A n xs) (i : Int) (h0 : 0 ≤ i) (h1 : i < n) : ∃ ad A0 c0, A = some ad ∧ w.cell? (ad.add i.toNat) = some (.slice A0 (rd_L6 xs i).length c0) ∧ (rd_L6 xs i).length ≤ c0 ∧ (Kd.slice 3 (Kd.int .i64)).C w A0 (rd_L6 xs i).length (rd_L6 xs i) := by
 obtain ⟨ad, c, e, _, hK, hc0⟩ := Kd.C_get h ([] : List (List Int)) i h0 h1
 have hc : ∀ j u, c[j]? = some u → w.cell? (ad.add (i.toNat * 1 + j)) = some u := hc0
 obtain ⟨A0, c0, rfl, l0, g0⟩ := hK
 exact ⟨ad, A0, c0, e, by have hq := hc 0 _ rfl; rwa [Nat.mul_one, Nat.add_zero] at hq, l0, g0⟩

/-! #### struct type 76 -/
structure S76 where
 f0 : Int
 f1 : Int
def z76 : S76 := ⟨(0 : Int), (0 : Int)⟩
def k76 : Kd S76 := Kd.iso (Kd.pair (Kd.int .u64) (Kd.int .u64)) (fun x : S76 => (x.f0, x.f1))
theorem k76_open {w : World} {x : S76} {cs : List Value} (h : k76.K w x cs) : cs = [.int .u64 x.f0, .int .u64 x.f1] := by
 obtain ⟨_, _, rfl, rfl, rfl⟩ := h
 exact rfl
theorem k76_openM {w : World} {base : Nat} {ok : Nat → Prop} {x : S76} {cs : List Value} (h : k76.M w base ok x cs) : cs = [.int .u64 x.f0, .int .u64 x.f1] := by
 obtain ⟨_, _, rfl, rfl, rfl⟩ := h
 exact rfl
theorem k76_mk (w : World) (x : S76)  : k76.K w x [.int .u64 x.f0, .int .u64 x.f1] := ⟨[.int .u64 x.f0], [.int .u64 x.f1], rfl, rfl, rfl⟩
theorem k76_mkM (w : World) (base : Nat) (ok : Nat → Prop) (x : S76)  : k76.M w base ok x [.int .u64 x.f0, .int .u64 x.f1] := ⟨[.int .u64 x.f0], [.int .u64 x.f1], rfl, rfl, rfl⟩
theorem k76_mkF (W : World) (ok : Nat → Prop) (x : S76) : Kd.FK k76 W ok x [.int .u64 x.f0, .int .u64 x.f1] := fun W2 _ => k76_mk W2 x
def rd_T76 (xs : List S76) (i : Int) : S76 := xs.getD i.toNat z76
theorem at_T76 {w : World} {A : Option Addr} {n : Nat} {xs : List S76} (h : Kd.C k76 w A n xs) (i : Int) (h0 : 0 ≤ i) (h1 : i < n) : ∃ ad , A = some ad ∧ w.cell? (ad.add (i.toNat * 2)) = some (.int .u64 (rd_T76 xs i).f0) ∧ w.cell? ⟨(ad.add (i.toNat * 2)).block, (ad.add (i.toNat * 2)).off + 1, none⟩ = some (.int .u64 (rd_T76 xs i).f1) := by
 obtain ⟨ad, c, e, _, hK, hc0⟩ := Kd.C_get h z76 i h0 h1
 have hc : ∀ j u, c[j]? = some u → w.cell? (ad.add (i.toNat * 2 + j)) = some u := hc0
 obtain rfl := k76_open hK
 exact ⟨ad, e, hc 0 _ rfl, by rw [← add_field _ _ 1 (by omega)]; exact hc 1 _ rfl⟩

def rd_L9 (xs : List (List S76)) (i : Int) : (List S76) := xs.getD i.toNat ([] : List S76)
theorem at_L9 {w : World} {A : Option Addr} {n : Nat} {xs : List (List S76)} (h : Kd.C (Kd.slice 76 k76) w A n xs) (i : Int) (h0 : 0 ≤ i) (h1 : i < n) : ∃ ad A0 c0, A = some ad ∧ w.cell? (ad.add i.toNat) = some (.slice A0 (rd_L9 xs i).length c0) ∧ (rd_L9 xs i).length ≤ c0 ∧ k76.C w A0 (rd_L9 xs i).length (rd_L9 xs i) := by
 obtain ⟨ad, c, e, _, hK, hc0⟩ := Kd.C_get h ([] : List S76) i h0 h1
 have hc : ∀ j u, c[j]? = some u → w.cell? (ad.add (i.toNat * 1 + j)) = some u := hc0
 obtain ⟨A0, c0, rfl, l0, g0⟩ := hK
 exact ⟨ad, A0, c0, e, by have hq := hc 0 _ rfl; rwa [Nat.mul_one, Nat.add_zero] at hq, l0, g0⟩

/-! #### struct type 57 -/
structure S57 where
 f0 : Int
 f1 : Int
def z57 : S57 := ⟨(0 : Int), (0 : Int)⟩
def k57 : Kd S57 := Kd.iso (Kd.pair (Kd.int .u64) (Kd.int .u64)) (fun x : S57 => (x.f0, x.f1))
theorem k57_open {w : World} {x : S57} {cs : List Value} (h : k57.K w x cs) : cs = [.int .u64 x.f0, .int .u64 x.f1] := by
 obtain ⟨_, _, rfl, rfl, rfl⟩ := h
 exact rfl
theorem k57_openM {w : World} {base : Nat} {ok : Nat → Prop} {x : S57} {cs : List Value} (h : k57.M w base ok x cs) : cs = [.int .u64 x.f0, .int .u64 x.f1] := by
 obtain ⟨_, _, rfl, rfl, rfl⟩ := h
 exact rfl
theorem k57_mk (w : World) (x : S57)  : k57.K w x [.int .u64 x.f0, .int .u64 x.f1] := ⟨[.int .u64 x.f0], [.int .u64 x.f1], rfl, rfl, rfl⟩
theorem k57_mkM (w : World) (base : Nat) (ok : Nat → Prop) (x : S57)  : k57.M w base ok x [.int .u64 x.f0, .int .u64 x.f1] := ⟨[.int .u64 x.f0], [.int .u64 x.f1], rfl, rfl, rfl⟩
theorem k57_mkF (W : World) (ok : Nat → Prop) (x : S57) : Kd.FK k57 W ok x [.int .u64 x.f0, .int .u64 x.f1] := fun W2 _ => k57_mk W2 x
def rd_T57 (xs : List S57) (i : Int) : S57 := xs.getD i.toNat z57
theorem at_T57 {w : World} {A : Option Addr} {n : Nat} {xs : List S57} (h : Kd.C k57 w A n xs) (i : Int) (h0 : 0 ≤ i) (h1 : i < n) : ∃ ad , A = some ad ∧ w.cell? (ad.add (i.toNat * 2)) = some (.int .u64 (rd_T57 xs i).f0) ∧ w.cell? ⟨(ad.add (i.toNat * 2)).block, (ad.add (i.toNat * 2)).off + 1, none⟩ = some (.int .u64 (rd_T57 xs i).f1) := by
 obtain ⟨ad, c, e, _, hK, hc0⟩ := Kd.C_get h z57 i h0 h1
 have hc : ∀ j u, c[j]? = some u → w.cell? (ad.add (i.toNat * 2 + j)) = some u := hc0
 obtain rfl := k57_open hK
 exact ⟨ad, e, hc 0 _ rfl, by rw [← add_field _ _ 1 (by omega)]; exact hc 1 _ rfl⟩

def rd_L11 (xs : List (List S57)) (i : Int) : (List S57) := xs.getD i.toNat ([] : List S57)
theorem at_L11 {w : World} {A : Option Addr} {n : Nat} {xs : List (List S57)} (h : Kd.C (Kd.slice 57 k57) w A n xs) (i : Int) (h0 : 0 ≤ i) (h1 : i < n) : ∃ ad A0 c0, A = some ad ∧ w.cell? (ad.add i.toNat) = some (.slice A0 (rd_L11 xs i).length c0) ∧ (rd_L11 xs i).length ≤ c0 ∧ k57.C w A0 (rd_L11 xs i).length (rd_L11 xs i) := by
 obtain ⟨ad, c, e, _, hK, hc0⟩ := Kd.C_get h ([] : List S57) i h0 h1
 have hc : ∀ j u, c[j]? = some u → w.cell? (ad.add (i.toNat * 1 + j)) = some u := hc0
 obtain ⟨A0, c0, rfl, l0, g0⟩ := hK
 exact ⟨ad, A0, c0, e, by have hq := hc 0 _ rfl; rwa [Nat.mul_one, Nat.add_zero] at hq, l0, g0⟩

/-! #### struct type 59 -/
structure S59 where
 f0 : ByteArray
 f1 : Int
 f2 : Int
def z59 : S59 := ⟨(⟨#[]⟩ : ByteArray), (0 : Int), (0 : Int)⟩
def k59 : Kd S59 := Kd.iso (Kd.pair Kd.string (Kd.pair (Kd.int .i64) (Kd.int .i64))) (fun x : S59 => (x.f0, x.f1, x.f2))
theorem k59_open {w : World} {x : S59} {cs : List Value} (h : k59.K w x cs) : cs = [.string x.f0, .int .i64 x.f1, .int .i64 x.f2] := by
 obtain ⟨_, _, rfl, rfl, ⟨_, _, rfl, rfl, rfl⟩⟩ := h
 exact rfl
theorem k59_openM {w : World} {base : Nat} {ok : Nat → Prop} {x : S59} {cs : List Value} (h : k59.M w base ok x cs) : cs = [.string x.f0, .int .i64 x.f1, .int .i64 x.f2] := by
 obtain ⟨_, _, rfl, rfl, ⟨_, _, rfl, rfl, rfl⟩⟩ := h
 exact rfl
theorem k59_mk (w : World) (x : S59)  : k59.K w x [.string x.f0, .int .i64 x.f1, .int .i64 x.f2] := ⟨[.string x.f0], [.int .i64 x.f1, .int .i64 x.f2], rfl, rfl, ⟨[.int .i64 x.f1], [.int .i64 x.f2], rfl, rfl, rfl⟩⟩
theorem k59_mkM (w : World) (base : Nat) (ok : Nat → Prop) (x : S59)  : k59.M w base ok x [.string x.f0, .int .i64 x.f1, .int .i64 x.f2] := ⟨[.string x.f0], [.int .i64 x.f1, .int .i64 x.f2], rfl, rfl, ⟨[.int .i64 x.f1], [.int .i64 x.f2], rfl, rfl, rfl⟩⟩
theorem k59_mkF (W : World) (ok : Nat → Prop) (x : S59) : Kd.FK k59 W ok x [.string x.f0, .int .i64 x.f1, .int .i64 x.f2] := fun W2 _ => k59_mk W2 x
def rd_T59 (xs : List S59) (i : Int) : S59 := xs.getD i.toNat z59
theorem at_T59 {w : World} {A : Option Addr} {n : Nat} {xs : List S59} (h : Kd.C k59 w A n xs) (i : Int) (h0 : 0 ≤ i) (h1 : i < n) : ∃ ad , A = some ad ∧ w.cell? (ad.add (i.toNat * 3)) = some (.string (rd_T59 xs i).f0) ∧ w.cell? ⟨(ad.add (i.toNat * 3)).block, (ad.add (i.toNat * 3)).off + 1, none⟩ = some (.int .i64 (rd_T59 xs i).f1) ∧ w.cell? ⟨(ad.add (i.toNat * 3)).block, (ad.add (i.toNat * 3)).off + 2, none⟩ = some (.int .i64 (rd_T59 xs i).f2) := by
 obtain ⟨ad, c, e, _, hK, hc0⟩ := Kd.C_get h z59 i h0 h1
 have hc : ∀ j u, c[j]? = some u → w.cell? (ad.add (i.toNat * 3 + j)) = some u := hc0
 obtain rfl := k59_open hK
 exact ⟨ad, e, hc 0 _ rfl, by rw [← add_field _ _ 1 (by omega)]; exact hc 1 _ rfl, by rw [← add_field _ _ 2 (by omega)]; exact hc 2 _ rfl⟩

/-! #### struct type 62 -/
structure S62 where
 f0 : Int
 f1 : Int
def z62 : S62 := ⟨(0 : Int), (0 : Int)⟩
def k62 : Kd S62 := Kd.iso (Kd.pair (Kd.int .i64) (Kd.int .i64)) (fun x : S62 => (x.f0, x.f1))
theorem k62_open {w : World} {x : S62} {cs : List Value} (h : k62.K w x cs) : cs = [.int .i64 x.f0, .int .i64 x.f1] := by
 obtain ⟨_, _, rfl, rfl, rfl⟩ := h
 exact rfl
theorem k62_openM {w : World} {base : Nat} {ok : Nat → Prop} {x : S62} {cs : List Value} (h : k62.M w base ok x cs) : cs = [.int .i64 x.f0, .int .i64 x.f1] := by
 obtain ⟨_, _, rfl, rfl, rfl⟩ := h
 exact rfl
theorem k62_mk (w : World) (x : S62)  : k62.K w x [.int .i64 x.f0, .int .i64 x.f1] := ⟨[.int .i64 x.f0], [.int .i64 x.f1], rfl, rfl, rfl⟩
theorem k62_mkM (w : World) (base : Nat) (ok : Nat → Prop) (x : S62)  : k62.M w base ok x [.int .i64 x.f0, .int .i64 x.f1] := ⟨[.int .i64 x.f0], [.int .i64 x.f1], rfl, rfl, rfl⟩
theorem k62_mkF (W : World) (ok : Nat → Prop) (x : S62) : Kd.FK k62 W ok x [.int .i64 x.f0, .int .i64 x.f1] := fun W2 _ => k62_mk W2 x
def rd_T62 (xs : List S62) (i : Int) : S62 := xs.getD i.toNat z62
theorem at_T62 {w : World} {A : Option Addr} {n : Nat} {xs : List S62} (h : Kd.C k62 w A n xs) (i : Int) (h0 : 0 ≤ i) (h1 : i < n) : ∃ ad , A = some ad ∧ w.cell? (ad.add (i.toNat * 2)) = some (.int .i64 (rd_T62 xs i).f0) ∧ w.cell? ⟨(ad.add (i.toNat * 2)).block, (ad.add (i.toNat * 2)).off + 1, none⟩ = some (.int .i64 (rd_T62 xs i).f1) := by
 obtain ⟨ad, c, e, _, hK, hc0⟩ := Kd.C_get h z62 i h0 h1
 have hc : ∀ j u, c[j]? = some u → w.cell? (ad.add (i.toNat * 2 + j)) = some u := hc0
 obtain rfl := k62_open hK
 exact ⟨ad, e, hc 0 _ rfl, by rw [← add_field _ _ 1 (by omega)]; exact hc 1 _ rfl⟩

def rd_L15 (xs : List (List S62)) (i : Int) : (List S62) := xs.getD i.toNat ([] : List S62)
theorem at_L15 {w : World} {A : Option Addr} {n : Nat} {xs : List (List S62)} (h : Kd.C (Kd.slice 62 k62) w A n xs) (i : Int) (h0 : 0 ≤ i) (h1 : i < n) : ∃ ad A0 c0, A = some ad ∧ w.cell? (ad.add i.toNat) = some (.slice A0 (rd_L15 xs i).length c0) ∧ (rd_L15 xs i).length ≤ c0 ∧ k62.C w A0 (rd_L15 xs i).length (rd_L15 xs i) := by
 obtain ⟨ad, c, e, _, hK, hc0⟩ := Kd.C_get h ([] : List S62) i h0 h1
 have hc : ∀ j u, c[j]? = some u → w.cell? (ad.add (i.toNat * 1 + j)) = some u := hc0
 obtain ⟨A0, c0, rfl, l0, g0⟩ := hK
 exact ⟨ad, A0, c0, e, by have hq := hc 0 _ rfl; rwa [Nat.mul_one, Nat.add_zero] at hq, l0, g0⟩

/-! #### struct type 41 -/
structure S41 where
 f0 : ByteArray
 f1 : (List S62)
 f2 : (List S62)
 f3 : (List S62)
 f4 : Int
def z41 : S41 := ⟨(⟨#[]⟩ : ByteArray), ([] : List S62), ([] : List S62), ([] : List S62), (0 : Int)⟩
def k41 : Kd S41 := Kd.iso (Kd.pair Kd.string (Kd.pair (Kd.slice 62 k62) (Kd.pair (Kd.slice 62 k62) (Kd.pair (Kd.slice 62 k62) (Kd.int .i64))))) (fun x : S41 => (x.f0, x.f1, x.f2, x.f3, x.f4))
theorem k41_open {w : World} {x : S41} {cs : List Value} (h : k41.K w x cs) : ∃ A1 c1 A2 c2 A3 c3, cs = [.string x.f0, .slice A1 x.f1.length c1, .slice A2 x.f2.length c2, .slice A3 x.f3.length c3, .int .i64 x.f4] ∧ x.f1.length ≤ c1 ∧ k62.C w A1 x.f1.length x.f1 ∧ x.f2.length ≤ c2 ∧ k62.C w A2 x.f2.length x.f2 ∧ x.f3.length ≤ c3 ∧ k62.C w A3 x.f3.length x.f3 := by
 obtain ⟨_, _, rfl, rfl, ⟨_, _, rfl, ⟨A1, c1, rfl, l1, g1⟩, ⟨_, _, rfl, ⟨A2, c2, rfl, l2, g2⟩, ⟨_, _, rfl, ⟨A3, c3, rfl, l3, g3⟩, rfl⟩⟩⟩⟩ := h
 exact ⟨A1, c1, A2, c2, A3, c3, rfl, l1, g1, l2, g2, l3, g3⟩
theorem k41_openM {w : World} {base : Nat} {ok : Nat → Prop} {x : S41} {cs : List Value} (h : k41.M w base ok x cs) : ∃ v1 v2 v3, cs = [.string x.f0, v1, v2, v3, .int .i64 x.f4] ∧ k62.R 62 w base ok v1 x.f1 ∧ k62.R 62 w base ok v2 x.f2 ∧ k62.R 62 w base ok v3 x.f3 := by
 obtain ⟨_, _, rfl, rfl, ⟨_, _, rfl, ⟨v1, rfl, g1⟩, ⟨_, _, rfl, ⟨v2, rfl, g2⟩, ⟨_, _, rfl, ⟨v3, rfl, g3⟩, rfl⟩⟩⟩⟩ := h
 exact ⟨v1, v2, v3, rfl, g1, g2, g3⟩
theorem k41_mk (w : World) (x : S41) {A1 : Option Addr} {c1 : Nat} (l1 : x.f1.length ≤ c1) (g1 : k62.C w A1 x.f1.length x.f1) {A2 : Option Addr} {c2 : Nat} (l2 : x.f2.length ≤ c2) (g2 : k62.C w A2 x.f2.length x.f2) {A3 : Option Addr} {c3 : Nat} (l3 : x.f3.length ≤ c3) (g3 : k62.C w A3 x.f3.length x.f3) : k41.K w x [.string x.f0, .slice A1 x.f1.length c1, .slice A2 x.f2.length c2, .slice A3 x.f3.length c3, .int .i64 x.f4] := ⟨[.string x.f0], [.slice A1 x.f1.length c1, .slice A2 x.f2.length c2, .slice A3 x.f3.length c3, .int .i64 x.f4], rfl, rfl, ⟨[.slice A1 x.f1.length c1], [.slice A2 x.f2.length c2, .slice A3 x.f3.length c3, .int .i64 x.f4], rfl, ⟨A1, c1, rfl, l1, g1⟩, ⟨[.slice A2 x.f2.length c2], [.slice A3 x.f3.length c3, .int .i64 x.f4], rfl, ⟨A2, c2, rfl, l2, g2⟩, ⟨[.slice A3 x.f3.length c3], [.int .i64 x.f4], rfl, ⟨A3, c3, rfl, l3, g3⟩, rfl⟩⟩⟩⟩
theorem k41_mkM (w : World) (base : Nat) (ok : Nat → Prop) (x : S41) {v1 : Value} (g1 : k62.R 62 w base ok v1 x.f1) {v2 : Value} (g2 : k62.R 62 w base ok v2 x.f2) {v3 : Value} (g3 : k62.R 62 w base ok v3 x.f3) : k41.M w base ok x [.string x.f0, v1, v2, v3, .int .i64 x.f4] := ⟨[.string x.f0], [v1, v2, v3, .int .i64 x.f4], rfl, rfl, ⟨[v1], [v2, v3, .int .i64 x.f4], rfl, ⟨v1, rfl, g1⟩, ⟨[v2], [v3, .int .i64 x.f4], rfl, ⟨v2, rfl, g2⟩, ⟨[v3], [.int .i64 x.f4], rfl, ⟨v3, rfl, g3⟩, rfl⟩⟩⟩⟩
theorem k41_openF {W : World} {ok : Nat → Prop} {x : S41} {cs : List Value} (h : Kd.FK k41 W ok x cs) : ∃ A1 c1 A2 c2 A3 c3, cs = [.string x.f0, .slice A1 x.f1.length c1, .slice A2 x.f2.length c2, .slice A3 x.f3.length c3, .int .i64 x.f4] ∧ x.f1.length ≤ c1 ∧ Kd.F k62 W ok A1 x.f1.length x.f1 ∧ x.f2.length ≤ c2 ∧ Kd.F k62 W ok A2 x.f2.length x.f2 ∧ x.f3.length ≤ c3 ∧ Kd.F k62 W ok A3 x.f3.length x.f3 := by
 obtain ⟨A1, c1, A2, c2, A3, c3, rfl, l1, _, l2, _, l3, _⟩ := k41_open (Kd.FK_now h)
 exact ⟨A1, c1, A2, c2, A3, c3, rfl, l1, (fun W' hW => by obtain ⟨A1_, c1_, A2_, c2_, A3_, c3_, he, l1_, g1_, l2_, g2_, l3_, g3_⟩ := k41_open (h W' hW); injection (Option.some.inj (show some (Value.slice A1 x.f1.length c1) = some (Value.slice A1_ x.f1.length c1_) from congrArg (fun l => l[1]?) he)) with ha_ _ _; rw [ha_]; exact g1_), l2, (fun W' hW => by obtain ⟨A1_, c1_, A2_, c2_, A3_, c3_, he, l1_, g1_, l2_, g2_, l3_, g3_⟩ := k41_open (h W' hW); injection (Option.some.inj (show some (Value.slice A2 x.f2.length c2) = some (Value.slice A2_ x.f2.length c2_) from congrArg (fun l => l[2]?) he)) with ha_ _ _; rw [ha_]; exact g2_), l3, (fun W' hW => by obtain ⟨A1_, c1_, A2_, c2_, A3_, c3_, he, l1_, g1_, l2_, g2_, l3_, g3_⟩ := k41_open (h W' hW); injection (Option.some.inj (show some (Value.slice A3 x.f3.length c3) = some (Value.slice A3_ x.f3.length c3_) from congrArg (fun l => l[3]?) he)) with ha_ _ _; rw [ha_]; exact g3_)⟩
theorem k41_mkF (W : World) (ok : Nat → Prop) (x : S41) {A1 : Option Addr} {c1 : Nat} (l1 : x.f1.length ≤ c1) (g1 : Kd.F k62 W ok A1 x.f1.length x.f1) {A2 : Option Addr} {c2 : Nat} (l2 : x.f2.length ≤ c2) (g2 : Kd.F k62 W ok A2 x.f2.length x.f2) {A3 : Option Addr} {c3 : Nat} (l3 : x.f3.length ≤ c3) (g3 : Kd.F k62 W ok A3 x.f3.length x.f3) : Kd.FK k41 W ok x [.string x.f0, .slice A1 x.f1.length c1, .slice A2 x.f2.length c2, .slice A3 x.f3.length c3, .int .i64 x.f4] := fun W2 hW => k41_mk W2 x l1 (g1 W2 hW) l2 (g2 W2 hW) l3 (g3 W2 hW)
def rd_T41 (xs : List S41) (i : Int) : S41 := xs.getD i.toNat z41
theorem at_T41 {w : World} {A : Option Addr} {n : Nat} {xs : List S41} (h : Kd.C k41 w A n xs) (i : Int) (h0 : 0 ≤ i) (h1 : i < n) : ∃ ad A1 c1 A2 c2 A3 c3, A = some ad ∧ w.cell? (ad.add (i.toNat * 5)) = some (.string (rd_T41 xs i).f0) ∧ w.cell? ⟨(ad.add (i.toNat * 5)).block, (ad.add (i.toNat * 5)).off + 1, none⟩ = some (.slice A1 (rd_T41 xs i).f1.length c1) ∧ w.cell? ⟨(ad.add (i.toNat * 5)).block, (ad.add (i.toNat * 5)).off + 2, none⟩ = some (.slice A2 (rd_T41 xs i).f2.length c2) ∧ w.cell? ⟨(ad.add (i.toNat * 5)).block, (ad.add (i.toNat * 5)).off + 3, none⟩ = some (.slice A3 (rd_T41 xs i).f3.length c3) ∧ w.cell? ⟨(ad.add (i.toNat * 5)).block, (ad.add (i.toNat * 5)).off + 4, none⟩ = some (.int .i64 (rd_T41 xs i).f4) ∧ (rd_T41 xs i).f1.length ≤ c1 ∧ k62.C w A1 (rd_T41 xs i).f1.length (rd_T41 xs i).f1 ∧ (rd_T41 xs i).f2.length ≤ c2 ∧ k62.C w A2 (rd_T41 xs i).f2.length (rd_T41 xs i).f2 ∧ (rd_T41 xs i).f3.length ≤ c3 ∧ k62.C w A3 (rd_T41 xs i).f3.length (rd_T41 xs i).f3 := by
 obtain ⟨ad, c, e, _, hK, hc0⟩ := Kd.C_get h z41 i h0 h1
 have hc : ∀ j u, c[j]? = some u → w.cell? (ad.add (i.toNat * 5 + j)) = some u := hc0
 obtain ⟨A1, c1, A2, c2, A3, c3, rfl, l1, g1, l2, g2, l3, g3⟩ := k41_open hK
 exact ⟨ad, A1, c1, A2, c2, A3, c3, e, hc 0 _ rfl, by rw [← add_field _ _ 1 (by omega)]; exact hc 1 _ rfl, by rw [← add_field _ _ 2 (by omega)]; exact hc 2 _ rfl, by rw [← add_field _ _ 3 (by omega)]; exact hc 3 _ rfl, by rw [← add_field _ _ 4 (by omega)]; exact hc 4 _ rfl, l1, g1, l2, g2, l3, g3⟩

def rd_L17 (xs : List (List S59)) (i : Int) : (List S59) := xs.getD i.toNat ([] : List S59)
theorem at_L17 {w : World} {A : Option Addr} {n : Nat} {xs : List (List S59)} (h : Kd.C (Kd.slice 59 k59) w A n xs) (i : Int) (h0 : 0 ≤ i) (h1 : i < n) : ∃ ad A0 c0, A = some ad ∧ w.cell? (ad.add i.toNat) = some (.slice A0 (rd_L17 xs i).length c0) ∧ (rd_L17 xs i).length ≤ c0 ∧ k59.C w A0 (rd_L17 xs i).length (rd_L17 xs i) := by
 obtain ⟨ad, c, e, _, hK, hc0⟩ := Kd.C_get h ([] : List S59) i h0 h1
 have hc : ∀ j u, c[j]? = some u → w.cell? (ad.add (i.toNat * 1 + j)) = some u := hc0
 obtain ⟨A0, c0, rfl, l0, g0⟩ := hK
 exact ⟨ad, A0, c0, e, by have hq := hc 0 _ rfl; rwa [Nat.mul_one, Nat.add_zero] at hq, l0, g0⟩

def rd_L18 (xs : List (List S41)) (i : Int) : (List S41) := xs.getD i.toNat ([] : List S41)
theorem at_L18 {w : World} {A : Option Addr} {n : Nat} {xs : List (List S41)} (h : Kd.C (Kd.slice 41 k41) w A n xs) (i : Int) (h0 : 0 ≤ i) (h1 : i < n) : ∃ ad A0 c0, A = some ad ∧ w.cell? (ad.add i.toNat) = some (.slice A0 (rd_L18 xs i).length c0) ∧ (rd_L18 xs i).length ≤ c0 ∧ k41.C w A0 (rd_L18 xs i).length (rd_L18 xs i) := by
 obtain ⟨ad, c, e, _, hK, hc0⟩ := Kd.C_get h ([] : List S41) i h0 h1
 have hc : ∀ j u, c[j]? = some u → w.cell? (ad.add (i.toNat * 1 + j)) = some u := hc0
 obtain ⟨A0, c0, rfl, l0, g0⟩ := hK
 exact ⟨ad, A0, c0, e, by have hq := hc 0 _ rfl; rwa [Nat.mul_one, Nat.add_zero] at hq, l0, g0⟩

/-! #### struct type 28 -/
structure S28 where
 f0 : ByteArray
 f1 : (List S59)
 f2 : (List S41)
def z28 : S28 := ⟨(⟨#[]⟩ : ByteArray), ([] : List S59), ([] : List S41)⟩
def k28 : Kd S28 := Kd.iso (Kd.pair Kd.string (Kd.pair (Kd.slice 59 k59) (Kd.slice 41 k41))) (fun x : S28 => (x.f0, x.f1, x.f2))
theorem k28_open {w : World} {x : S28} {cs : List Value} (h : k28.K w x cs) : ∃ A1 c1 A2 c2, cs = [.string x.f0, .slice A1 x.f1.length c1, .slice A2 x.f2.length c2] ∧ x.f1.length ≤ c1 ∧ k59.C w A1 x.f1.length x.f1 ∧ x.f2.length ≤ c2 ∧ k41.C w A2 x.f2.length x.f2 := by
 obtain ⟨_, _, rfl, rfl, ⟨_, _, rfl, ⟨A1, c1, rfl, l1, g1⟩, ⟨A2, c2, rfl, l2, g2⟩⟩⟩ := h
 exact ⟨A1, c1, A2, c2, rfl, l1, g1, l2, g2⟩
theorem k28_openM {w : World} {base : Nat} {ok : Nat → Prop} {x : S28} {cs : List Value} (h : k28.M w base ok x cs) : ∃ v1 v2, cs = [.string x.f0, v1, v2] ∧ k59.R 59 w base ok v1 x.f1 ∧ k41.R 41 w base ok v2 x.f2 := by
 obtain ⟨_, _, rfl, rfl, ⟨_, _, rfl, ⟨v1, rfl, g1⟩, ⟨v2, rfl, g2⟩⟩⟩ := h
 exact ⟨v1, v2, rfl, g1, g2⟩
theorem k28_mk (w : World) (x : S28) {A1 : Option Addr} {c1 : Nat} (l1 : x.f1.length ≤ c1) (g1 : k59.C w A1 x.f1.length x.f1) {A2 : Option Addr} {c2 : Nat} (l2 : x.f2.length ≤ c2) (g2 : k41.C w A2 x.f2.length x.f2) : k28.K w x [.string x.f0, .slice A1 x.f1.length c1, .slice A2 x.f2.length c2] := ⟨[.string x.f0], [.slice A1 x.f1.length c1, .slice A2 x.f2.length c2], rfl, rfl, ⟨[.slice A1 x.f1.length c1], [.slice A2 x.f2.length c2], rfl, ⟨A1, c1, rfl, l1, g1⟩, ⟨A2, c2, rfl, l2, g2⟩⟩⟩
theorem k28_mkM (w : World) (base : Nat) (ok : Nat → Prop) (x : S28) {v1 : Value} (g1 : k59.R 59 w base ok v1 x.f1) {v2 : Value} (g2 : k41.R 41 w base ok v2 x.f2) : k28.M w base ok x [.string x.f0, v1, v2] := ⟨[.string x.f0], [v1, v2], rfl, rfl, ⟨[v1], [v2], rfl, ⟨v1, rfl, g1⟩, ⟨v2, rfl, g2⟩⟩⟩
theorem k28_openF {W : World} {ok : Nat → Prop} {x : S28} {cs : List Value} (h : Kd.FK k28 W ok x cs) : ∃ A1 c1 A2 c2, cs = [.string x.f0, .slice A1 x.f1.length c1, .slice A2 x.f2.length c2] ∧ x.f1.length ≤ c1 ∧ Kd.F k59 W ok A1 x.f1.length x.f1 ∧ x.f2.length ≤ c2 ∧ Kd.F k41 W ok A2 x.f2.length x.f2 := by
 obtain ⟨A1, c1, A2, c2, rfl, l1, _, l2, _⟩ := k28_open (Kd.FK_now h)
 exact ⟨A1, c1, A2, c2, rfl, l1, (fun W' hW => by obtain ⟨A1_, c1_, A2_, c2_, he, l1_, g1_, l2_, g2_⟩ := k28_open (h W' hW); injection (Option.some.inj (show some (Value.slice A1 x.f1.length c1) = some (Value.slice A1_ x.f1.length c1_) from congrArg (fun l => l[1]?) he)) with ha_ _ _; rw [ha_]; exact g1_), l2, (fun W' hW => by obtain ⟨A1_, c1_, A2_, c2_, he, l1_, g1_, l2_, g2_⟩ := k28_open (h W' hW); injection (Option.some.inj (show some (Value.slice A2 x.f2.length c2) = some (Value.slice A2_ x.f2.length c2_) from congrArg (fun l => l[2]?) he)) with ha_ _ _; rw [ha_]; exact g2_)⟩
theorem k28_mkF (W : World) (ok : Nat → Prop) (x : S28) {A1 : Option Addr} {c1 : Nat} (l1 : x.f1.length ≤ c1) (g1 : Kd.F k59 W ok A1 x.f1.length x.f1) {A2 : Option Addr} {c2 : Nat} (l2 : x.f2.length ≤ c2) (g2 : Kd.F k41 W ok A2 x.f2.length x.f2) : Kd.FK k28 W ok x [.string x.f0, .slice A1 x.f1.length c1, .slice A2 x.f2.length c2] := fun W2 hW => k28_mk W2 x l1 (g1 W2 hW) l2 (g2 W2 hW)
def rd_T28 (xs : List S28) (i : Int) : S28 := xs.getD i.toNat z28
theorem at_T28 {w : World} {A : Option Addr} {n : Nat} {xs : List S28} (h : Kd.C k28 w A n xs) (i : Int) (h0 : 0 ≤ i) (h1 : i < n) : ∃ ad A1 c1 A2 c2, A = some ad ∧ w.cell? (ad.add (i.toNat * 3)) = some (.string (rd_T28 xs i).f0) ∧ w.cell? ⟨(ad.add (i.toNat * 3)).block, (ad.add (i.toNat * 3)).off + 1, none⟩ = some (.slice A1 (rd_T28 xs i).f1.length c1) ∧ w.cell? ⟨(ad.add (i.toNat * 3)).block, (ad.add (i.toNat * 3)).off + 2, none⟩ = some (.slice A2 (rd_T28 xs i).f2.length c2) ∧ (rd_T28 xs i).f1.length ≤ c1 ∧ k59.C w A1 (rd_T28 xs i).f1.length (rd_T28 xs i).f1 ∧ (rd_T28 xs i).f2.length ≤ c2 ∧ k41.C w A2 (rd_T28 xs i).f2.length (rd_T28 xs i).f2 := by
 obtain ⟨ad, c, e, _, hK, hc0⟩ := Kd.C_get h z28 i h0 h1
 have hc : ∀ j u, c[j]? = some u → w.cell? (ad.add (i.toNat * 3 + j)) = some u := hc0
 obtain ⟨A1, c1, A2, c2, rfl, l1, g1, l2, g2⟩ := k28_open hK
 exact ⟨ad, A1, c1, A2, c2, e, hc 0 _ rfl, by rw [← add_field _ _ 1 (by omega)]; exact hc 1 _ rfl, by rw [← add_field _ _ 2 (by omega)]; exact hc 2 _ rfl, l1, g1, l2, g2⟩



theorem eqiC57 {P : Program} {d : Nat} {e : TypeId} {c : Nat} {xs ys : Array Value} {i : Nat} {is : List Nat} {a b : Value} {r s : Bool} {w : World} (ha : (part e xs (i * c)).run P w = .ok a w) (hb : (part e ys (i * c)).run P w = .ok b w) (he : (Op.equalIn d e a b).run P w = .ok r w) (hr : (Op.eqItems d e c xs ys is).run P w = .ok s w) : (Op.eqItems d e c xs ys (i :: is)).run P w = .ok (r && s) w := by
 simp only [Op.eqItems, Sem.run_bind, ha, hb, he, Result.andThen_ok]
 cases r
 ·
  simp
 ·
  simpa using hr
theorem eqA57 (d : Nat) (w : World) (x0 y0 x1 y1 : Int) :
  (Op.equalIn (d + 2) 57 (.agg #[.int .u64 x0, .int .u64 x1]) (.agg #[.int .u64 y0, .int .u64 y1])).run Tryd.prog w = .ok (x0 == y0 && (x1 == y1)) w := by
 obtain ⟨i, hi⟩ := Option.isSome_iff_exists.1 (show (Tryd.prog.info? 56).isSome = true by kernel_rfl)
 rw [run_equalIn_array w (d + 1) _ _ Tryd.underlying57 hi, show Tryd.prog.cellsOf 56 = 1 by kernel_rfl]
 show (Op.eqItems (d + 1) 56 1 _ _ [0, 1]).run _ _ = _
 have h0 : (Op.eqItems (d + 1) 56 1 (#[.int .u64 x0, .int .u64 x1] : Array Value) #[.int .u64 y0, .int .u64 y1] []).run Tryd.prog w = .ok true w := by simp [Op.eqItems]
 have h1 := eqiC57 (i := 1) (d := d + 1) (e := 56) (c := 1) (a := .int .u64 x1) (b := .int .u64 y1) (r := (x1 == y1)) (by first | (go_simp; done) | (go_simp; rfl)) (by first | (go_simp; done) | (go_simp; rfl)) (by go_simp) h0
 have h2 := eqiC57 (i := 0) (d := d + 1) (e := 56) (c := 1) (a := .int .u64 x0) (b := .int .u64 y0) (r := (x0 == y0)) (by first | (go_simp; done) | (go_simp; rfl)) (by first | (go_simp; done) | (go_simp; rfl)) (by go_simp) h1
 simpa only [Bool.and_true] using h2


theorem eqA59 (d : Nat) (w : World) (x0 y0 : ByteArray) (x1 y1 : Int) (x2 y2 : Int) :
  (Op.equalIn (d + 2) 59 (.agg #[.string x0, .int .i64 x1, .int .i64 x2]) (.agg #[.string y0, .int .i64 y1, .int .i64 y2])).run Tryd.prog w = .ok (x0.toList == y0.toList && (x1 == y1 && (x2 == y2))) w := by
 refine eqA_of Tryd.underlying59 (by kernel_rfl) ?_
 refine eqf_cons (by rfl) (by go_simp; rfl) (by go_simp; rfl) (by go_simp) ?_
 refine eqf_cons (by rfl) (by go_simp; rfl) (by go_simp; rfl) (by go_simp) ?_
 exact eqf_last (by rfl) (by go_simp; rfl) (by go_simp; rfl) (by go_simp)


theorem eqA62 (d : Nat) (w : World) (x0 y0 : Int) (x1 y1 : Int) :
  (Op.equalIn (d + 2) 62 (.agg #[.int .i64 x0, .int .i64 x1]) (.agg #[.int .i64 y0, .int .i64 y1])).run Tryd.prog w = .ok (x0 == y0 && (x1 == y1)) w := by
 refine eqA_of Tryd.underlying62 (by kernel_rfl) ?_
 refine eqf_cons (by rfl) (by go_simp; rfl) (by go_simp; rfl) (by go_simp) ?_
 exact eqf_last (by rfl) (by go_simp; rfl) (by go_simp; rfl) (by go_simp)



/-! ### r49_Large: function 6 -/
mutual
def r49_Large.l0 : Nat → List (List ByteArray) → Int → Int → Option (Bool)
 | 0, _, _, _ => none
 | k + 1, x0, x3, x4 => if x4 < (x0.length : Int) then (if 0 ≤ x4 then (r49_Large.l1 k x0 (wrap64 (x3 + ((rd_L1 x0 x4).length : Int))) x4 0) else (none)) else (some (decide (x3 > 400)))
def r49_Large.l1 : Nat → List (List ByteArray) → Int → Int → Int → Option (Bool)
 | 0, _, _, _, _ => none
 | k + 1, x0, x3, x4, x5 => if 0 ≤ x4 then (if x4 < (x0.length : Int) then (if x5 < ((rd_L1 x0 x4).length : Int) then (if 0 ≤ x5 then (if ((rdOf ByteArray.empty (rd_L1 x0 x4) x5).size : Int) > 40 then (some true) else (r49_Large.l1 k x0 x3 x4 (wrap64 (x5 + 1)))) else (none)) else (r49_Large.l0 k x0 x3 (wrap64 (x4 + 1)))) else (none)) else (none)
end
def r49_Large.f (k : Nat) (l0 : List (List ByteArray)) : Option (Bool) := if (l0.length : Int) > 70 then (some true) else (r49_Large.l0 k l0 0 0)
theorem r49_Large.mono_l : ∀ k, (∀ y0 y1 y2, LeO (r49_Large.l0 k y0 y1 y2) (r49_Large.l0 (k + 1) y0 y1 y2)) ∧ (∀ y0 y1 y2 y3, LeO (r49_Large.l1 k y0 y1 y2 y3) (r49_Large.l1 (k + 1) y0 y1 y2 y3))
 | 0 => ⟨fun _ _ _ r h => by simp [r49_Large.l0] at h, fun _ _ _ _ r h => by simp [r49_Large.l1] at h⟩
 | k + 1 => by
  obtain ⟨ih0, ih1⟩ := r49_Large.mono_l k
  refine ⟨?_, ?_⟩ <;> intros <;> (first | unfold r49_Large.l0 | unfold r49_Large.l1)
  all_goals repeat' first
   | (with_reducible first | apply ih0 | apply ih1 | exact LeO.refl _ | exact LeO.none _ | refine LeO.ite ?_ ?_ | refine LeO.bind ?_ (fun _ => ?_))
theorem r49_Large.mono : ∀ a0 k, LeO (r49_Large.f k a0) (r49_Large.f (k + 1) a0) := by
 intro a0 k
 obtain ⟨ih0, ih1⟩ := r49_Large.mono_l k
 unfold r49_Large.f
 repeat' first
   | (with_reducible first | apply ih0 | apply ih1 | exact LeO.refl _ | exact LeO.none _ | refine LeO.ite ?_ ?_ | refine LeO.bind ?_ (fun _ => ?_))
set_option maxHeartbeats 8000000 in
set_option maxRecDepth 100000 in
theorem r49_Large.calls (k : Nat) (A0 : Option Addr) (c0 : Nat) (l0 : List (List ByteArray)) (r : Bool) (w : World) (hr0 : Kd.C (Kd.slice 9 Kd.string) w A0 l0.length l0) (hc0 : l0.length ≤ c0) (h : r49_Large.f k l0 = some r) :
  Calls Tryd.prog 6 #[.slice A0 l0.length c0] w fun e w' => e = .returned (.bool r) ∧ Drawn0 w w' := by
 have HR0 := aM hr0; have HC0 := aM hc0; clear hr0 hc0; have H : (if (l0.length : Int) > 70 then (some true) else (r49_Large.l0 k l0 0 0)) = some r := h; clear h
 by_cases c2 : (l0.length : Int) > 70
 ·
  rw [if_pos c2] at H
  have c2b0 : decide (70 < (l0.length : Int)) = true := decide_eq_true c2; have c2b1 : decide (70 < l0.length) = true := decide_eq_true (by omega); clear c2
  obtain rfl := Option.some.inj H
  go_enter Tryd.func6, Tryd.ntmps6
  go_wp2
  go_ret
  exact ⟨by first | rfl | (simp; done) | (simp [*]; done), by repeat (first | exact Drawn0.refl _ | apply Drawn0.step)⟩
 rw [if_neg c2] at H; have c2b0 : decide (70 < (l0.length : Int)) = false := decide_eq_false c2; have c2b1 : decide (70 < l0.length) = false := decide_eq_false (by omega); clear c2
 have H' := aM H
 clear H
 go_enter Tryd.func6, Tryd.ntmps6
 go_wp2
 go_loopg [3, 4] k (fun kq v3 v4 w' => ∃ (x3_1 : Int) (x4_1 : Int), v3 = .int .i64 x3_1 ∧ v4 = .int .i64 x4_1 ∧ Aside0 (r49_Large.l0 kq l0 x3_1 x4_1 = some r) ∧ Aside0 (kq ≤ k) ∧ Drawn0 w w')
 case atStart => exact ⟨(0), (0), eT, eT, H', ⟨Nat.le_refl _⟩, by repeat (first | exact Drawn0.refl _ | apply Drawn0.step)⟩
 clear H'
 obtain ⟨x3_1, x4_1, rfl, rfl, HA, HK1, ⟨m1, rfl⟩⟩ := hrel
 cases gk with
 | zero => exact absurd HA.out (by simp [r49_Large.l0])
 | succ k1 =>
  have H := HA.out; clear HA
  simp only [r49_Large.l0] at H
  by_cases c3 : x4_1 < (l0.length : Int)
  rotate_left
  ·
   rw [if_neg c3] at H
   have c3b0 := decide_eq_false c3; clear c3
   obtain rfl := Option.some.inj H
   go_wp2
   go_ret
   exact ⟨by first | rfl | (simp; done) | (simp [*]; done), by repeat (first | exact Drawn0.refl _ | apply Drawn0.step)⟩


  rw [if_pos c3] at H; have c3b0 := decide_eq_true c3; clear c3
  obtain ⟨c4, H⟩ := iP H; have c4b0 := decide_eq_true c4; clear c4
  have H' := aM H
  clear H; obtain ⟨p101, q101, ad101, A101_0, c101_0, e101, hx101_0, hl101_0, hi101_0⟩ := aT (at_L1 HR0.out x4_1); cases e101; have HR101_0 := aM hi101_0; have HC101_0 := aM hl101_0; clear hi101_0 hl101_0
  go_wp2
  go_loopg [5] k1 (fun kq v5 w' => ∃ (x5_2 : Int), v5 = .int .i64 x5_2 ∧ Aside0 (r49_Large.l1 kq l0 (wrap64 (x3_1 + ((rd_L1 l0 x4_1).length : Int))) x4_1 x5_2 = some r) ∧ Aside0 (kq ≤ k1) ∧ Drawn0 w w')
  case atStart => exact ⟨(0), eT, H', ⟨Nat.le_refl _⟩, by repeat (first | exact Drawn0.refl _ | apply Drawn0.step)⟩
  clear H'
  try clear hx1
  try clear hx101_0
  obtain ⟨x5_2, rfl, HA, HK2, ⟨m2, rfl⟩⟩ := hrel
  cases gk with
  | zero => exact absurd HA.out (by simp [r49_Large.l1])
  | succ k2 =>
   have H := HA.out; clear HA
   simp only [r49_Large.l1] at H
   obtain ⟨c5, H⟩ := iP H; have c5b0 := decide_eq_true c5; clear c5
   obtain ⟨c6, H⟩ := iP H; have c6b0 := decide_eq_true c6; clear c6
   by_cases c7 : x5_2 < ((rd_L1 l0 x4_1).length : Int)
   rotate_left
   ·
    rw [if_neg c7] at H
    have c7b0 := decide_eq_false c7; clear c7
    have H' := aM H
    clear H; obtain ⟨p102, q102, ad102, A102_0, c102_0, e102, hx102_0, hl102_0, hi102_0⟩ := aT (at_L1 HR0.out x4_1); obtain rfl : ad101 = ad102 := (by injection e102); have HR102_0 := aM hi102_0; have HC102_0 := aM hl102_0; clear hi102_0 hl102_0
    go_wp2
    go_roundg k2
    case measure => have := HK1.out; have := HK2.out; omega
    case rel => exact ⟨((wrap64 (x3_1 + ((rd_L1 l0 x4_1).length : Int)))), (wrap64 (x4_1 + 1)), eT, eT, H', ⟨by have := HK1.out; have := HK2.out; omega⟩, by repeat (first | exact Drawn0.refl _ | apply Drawn0.step)⟩
   rw [if_pos c7] at H; have c7b0 := decide_eq_true c7; clear c7
   obtain ⟨c8, H⟩ := iP H; have c8b0 := decide_eq_true c8; clear c8
   by_cases c9 : ((rdOf ByteArray.empty (rd_L1 l0 x4_1) x5_2).size : Int) > 40
   ·
    rw [if_pos c9] at H
    have c9b0 : decide (40 < ((rdOf ByteArray.empty (rd_L1 l0 x4_1) x5_2).size : Int)) = true := decide_eq_true c9; have c9b1 : decide (40 < (rdOf ByteArray.empty (rd_L1 l0 x4_1) x5_2).size) = true := decide_eq_true (by omega); clear c9
    obtain rfl := Option.some.inj H
    obtain ⟨p102, q102, ad102, A102_0, c102_0, e102, hx102_0, hl102_0, hi102_0⟩ := aT (at_L1 HR0.out x4_1); obtain rfl : ad101 = ad102 := (by injection e102); have HR102_0 := aM hi102_0; have HC102_0 := aM hl102_0; clear hi102_0 hl102_0; obtain ⟨p103, q103, ad103, A103_0, c103_0, e103, hx103_0, hl103_0, hi103_0⟩ := aT (at_L1 HR0.out x4_1); obtain rfl : ad101 = ad103 := (by injection e103); have HR103_0 := aM hi103_0; have HC103_0 := aM hl103_0; clear hi103_0 hl103_0; have ea_ := Option.some.inj (hx102_0.symm.trans hx103_0); injection ea_ with ea_ en_ ec_; subst ea_; subst ec_; clear en_; obtain ⟨p104, q104, ad104, e104, hx104_0⟩ := aT (Kd.at_string HR103_0.out x5_2); cases e104
    go_wp2
    go_ret
    exact ⟨by first | rfl | (simp; done) | (simp [*]; done), by repeat (first | exact Drawn0.refl _ | apply Drawn0.step)⟩
   rw [if_neg c9] at H; have c9b0 : decide (40 < ((rdOf ByteArray.empty (rd_L1 l0 x4_1) x5_2).size : Int)) = false := decide_eq_false c9; have c9b1 : decide (40 < (rdOf ByteArray.empty (rd_L1 l0 x4_1) x5_2).size) = false := decide_eq_false (by omega); clear c9
   have H' := aM H
   clear H; obtain ⟨p102, q102, ad102, A102_0, c102_0, e102, hx102_0, hl102_0, hi102_0⟩ := aT (at_L1 HR0.out x4_1); obtain rfl : ad101 = ad102 := (by injection e102); have HR102_0 := aM hi102_0; have HC102_0 := aM hl102_0; clear hi102_0 hl102_0; obtain ⟨p103, q103, ad103, A103_0, c103_0, e103, hx103_0, hl103_0, hi103_0⟩ := aT (at_L1 HR0.out x4_1); obtain rfl : ad101 = ad103 := (by injection e103); have HR103_0 := aM hi103_0; have HC103_0 := aM hl103_0; clear hi103_0 hl103_0; have ea_ := Option.some.inj (hx102_0.symm.trans hx103_0); injection ea_ with ea_ en_ ec_; subst ea_; subst ec_; clear en_; obtain ⟨p104, q104, ad104, e104, hx104_0⟩ := aT (Kd.at_string HR103_0.out x5_2); cases e104
   go_wp2
   go_roundg k2
   case measure => have := HK1.out; have := HK2.out; omega
   case rel => exact ⟨(wrap64 (x5_2 + 1)), eT, H', ⟨by have := HK1.out; have := HK2.out; omega⟩, by repeat (first | exact Drawn0.refl _ | apply Drawn0.step)⟩
/-! ### r48_Has: function 13 -/
def r48_Has.l0 : Nat → List ByteArray → ByteArray → Int → Option (Bool)
 | 0, _, _, _ => none
 | k + 1, x0, x1, x5 => if x5 < (x0.length : Int) then (if 0 ≤ x5 then (if (rdOf ByteArray.empty x0 x5).toList = x1.toList then (some true) else (r48_Has.l0 k x0 x1 (wrap64 (x5 + 1)))) else (none)) else (some false)
def r48_Has.f (k : Nat) (l0 : List ByteArray) (a1 : ByteArray) : Option (Bool) := r48_Has.l0 k l0 a1 0
theorem r48_Has.mono_l : ∀ k, (∀ y0 y1 y2, LeO (r48_Has.l0 k y0 y1 y2) (r48_Has.l0 (k + 1) y0 y1 y2))
 | 0 => fun _ _ _ r h => by simp [r48_Has.l0] at h
 | k + 1 => by
  have ih0 := r48_Has.mono_l k
  ·
   intro y0 y1 y2
   unfold r48_Has.l0
   repeat' first
   | (with_reducible first | apply ih0 | exact LeO.refl _ | exact LeO.none _ | refine LeO.ite ?_ ?_ | refine LeO.bind ?_ (fun _ => ?_))
theorem r48_Has.mono : ∀ a0 a1 k, LeO (r48_Has.f k a0 a1) (r48_Has.f (k + 1) a0 a1) := by
 intro a0 a1 k
 have ih0 := r48_Has.mono_l k
 unfold r48_Has.f
 repeat' first
   | (with_reducible first | apply ih0 | exact LeO.refl _ | exact LeO.none _ | refine LeO.ite ?_ ?_ | refine LeO.bind ?_ (fun _ => ?_))
set_option maxHeartbeats 8000000 in
set_option maxRecDepth 100000 in
theorem r48_Has.calls (k : Nat) (A0 : Option Addr) (c0 : Nat) (l0 : List ByteArray) (a1 : ByteArray) (r : Bool) (w : World) (hr0 : Kd.C Kd.string w A0 l0.length l0) (hc0 : l0.length ≤ c0) (h : r48_Has.f k l0 a1 = some r) :
  Calls Tryd.prog 13 #[.slice A0 l0.length c0, .string a1] w fun e w' => e = .returned (.bool r) ∧ Drawn0 w w' := by
 have HR0 := aM hr0; have HC0 := aM hc0; clear hr0 hc0; have H : (r48_Has.l0 k l0 a1 0) = some r := h; clear h
 have H' := aM H
 clear H
 go_enter Tryd.func13, Tryd.ntmps13
 go_wp2
 go_loopg [5] k (fun kq v5 w' => ∃ (x5_1 : Int), v5 = .int .i64 x5_1 ∧ Aside0 (r48_Has.l0 kq l0 a1 x5_1 = some r) ∧ Aside0 (kq ≤ k) ∧ Drawn0 w w')
 case atStart => exact ⟨(0), eT, H', ⟨Nat.le_refl _⟩, by repeat (first | exact Drawn0.refl _ | apply Drawn0.step)⟩
 clear H'
 obtain ⟨x5_1, rfl, HA, HK1, ⟨m1, rfl⟩⟩ := hrel
 cases gk with
 | zero => exact absurd HA.out (by simp [r48_Has.l0])
 | succ k1 =>
  have H := HA.out; clear HA
  simp only [r48_Has.l0] at H
  by_cases c3 : x5_1 < (l0.length : Int)
  rotate_left
  ·
   rw [if_neg c3] at H
   have c3b0 := decide_eq_false c3; clear c3
   obtain rfl := Option.some.inj H
   go_wp2
   go_ret
   exact ⟨by first | rfl | (simp; done) | (simp [*]; done), by repeat (first | exact Drawn0.refl _ | apply Drawn0.step)⟩


  rw [if_pos c3] at H; have c3b0 := decide_eq_true c3; clear c3
  obtain ⟨c4, H⟩ := iP H; have c4b0 := decide_eq_true c4; clear c4
  by_cases c5 : (rdOf ByteArray.empty l0 x5_1).toList = a1.toList
  ·
   rw [if_pos c5] at H
   have c5b0 : ((rdOf ByteArray.empty l0 x5_1).toList == a1.toList) = true := beq_iff_eq.mpr c5; have c5b1 : ((rdOf ByteArray.empty l0 x5_1).toList != a1.toList) = false := bne_eq_false_iff_eq.mpr c5; clear c5
   obtain rfl := Option.some.inj H
   obtain ⟨p105, q105, ad105, e105, hx105_0⟩ := aT (Kd.at_string HR0.out x5_1); cases e105
   go_wp2
   go_ret
   exact ⟨by first | rfl | (simp; done) | (simp [*]; done), by repeat (first | exact Drawn0.refl _ | apply Drawn0.step)⟩
  rw [if_neg c5] at H; have c5b0 : ((rdOf ByteArray.empty l0 x5_1).toList == a1.toList) = false := beq_eq_false_iff_ne.mpr c5; have c5b1 : ((rdOf ByteArray.empty l0 x5_1).toList != a1.toList) = true := bne_iff_ne.mpr c5
  have H' := aM H
  clear H; obtain ⟨p105, q105, ad105, e105, hx105_0⟩ := aT (Kd.at_string HR0.out x5_1); cases e105
  go_wp2
  go_roundg k1
  case measure => have := HK1.out; omega
  case rel => exact ⟨(wrap64 (x5_1 + 1)), eT, H', ⟨by have := HK1.out; omega⟩, by repeat (first | exact Drawn0.refl _ | apply Drawn0.step)⟩
/-! ### r48_Insert: function 44 -/
def r48_Insert.l0 : Nat → List ByteArray → ByteArray → List ByteArray → Bool → Int → Option (List ByteArray)
 | 0, _, _, _, _, _ => none
 | k + 1, x0, x1, x5, x6, x7 => if x7 < (x0.length : Int) then (if x6 = true then (if 0 ≤ x7 then (if x5.length < 8796093022208 then (r48_Insert.l0 k x0 x1 (x5 ++ [rdOf ByteArray.empty x0 x7]) x6 (wrap64 (x7 + 1))) else (none)) else (none)) else (if 0 ≤ x7 then (if (Op.bytesLess x1.toList ((rdOf ByteArray.empty x0 x7).toList)) = true then (if x5.length < 8796093022208 then ((some (x5 ++ [x1] : List ByteArray)).bind fun y112 => (if y112.length < 8796093022208 then (r48_Insert.l0 k x0 x1 (y112 ++ [rdOf ByteArray.empty x0 x7]) true (wrap64 (x7 + 1))) else (none))) else (none)) else (if x5.length < 8796093022208 then (r48_Insert.l0 k x0 x1 (x5 ++ [rdOf ByteArray.empty x0 x7]) x6 (wrap64 (x7 + 1))) else (none))) else (none))) else (if x6 = true then (some x5) else (if x5.length < 8796093022208 then (some (x5 ++ [x1])) else (none)))
def r48_Insert.f (k : Nat) (l0 : List ByteArray) (a1 : ByteArray) : Option (List ByteArray) := (r48_Has.f k l0 a1).bind fun t106 => (if t106 = true then (some l0) else (r48_Insert.l0 k l0 a1 ([] : List ByteArray) false 0))
theorem r48_Insert.mono_l : ∀ k, (∀ y0 y1 y2 y3 y4, LeO (r48_Insert.l0 k y0 y1 y2 y3 y4) (r48_Insert.l0 (k + 1) y0 y1 y2 y3 y4))
 | 0 => fun _ _ _ _ _ r h => by simp [r48_Insert.l0] at h
 | k + 1 => by
  have ih0 := r48_Insert.mono_l k
  ·
   intro y0 y1 y2 y3 y4
   unfold r48_Insert.l0
   repeat' first
   | (with_reducible first | apply ih0 | apply r48_Has.mono | exact LeO.refl _ | exact LeO.none _ | refine LeO.ite ?_ ?_ | refine LeO.bind ?_ (fun _ => ?_))
theorem r48_Insert.mono : ∀ a0 a1 k, LeO (r48_Insert.f k a0 a1) (r48_Insert.f (k + 1) a0 a1) := by
 intro a0 a1 k
 have ih0 := r48_Insert.mono_l k
 unfold r48_Insert.f
 repeat' first
   | (with_reducible first | apply ih0 | apply r48_Has.mono | exact LeO.refl _ | exact LeO.none _ | refine LeO.ite ?_ ?_ | refine LeO.bind ?_ (fun _ => ?_))
set_option maxHeartbeats 8000000 in
set_option maxRecDepth 100000 in
theorem r48_Insert.calls (k : Nat) (P0_ : Nat → Prop) (u9000_ : Value) (l0 : List ByteArray) (a1 : ByteArray) (r : List ByteArray) (w0 w : World) (hB : Below w0.heap.size w0 w) (ho0 : Kd.R Kd.string 9 w w0.heap.size P0_ u9000_ l0) (h : r48_Insert.f k l0 a1 = some r) :
  Calls Tryd.prog 44 #[u9000_, .string a1] w fun e w' => ∃ v0_ : Value, e = .returned (v0_) ∧ Kd.R Kd.string 9 w' w0.heap.size (fun k_ => (P0_ k_ ∨ w.heap.size ≤ k_)) v0_ r ∧ Below w0.heap.size w0 w' ∧ Kept w w' (fun k_ => P0_ k_) := by
 have HO0 := aM (show Kd.R Kd.string 9 w w0.heap.size (fun k_ => (P0_ k_ ∨ w.heap.size ≤ k_)) u9000_ l0 from Kd.R_mono ho0 (fun k_ hk => (.inl hk))); have HK := aM (Kept.refl w (fun k_ => P0_ k_)); have HW0 := aM hB.size; have HB := aM hB; clear hB; have H : ((r48_Has.f k l0 a1).bind fun t106 => (if t106 = true then (some l0) else (r48_Insert.l0 k l0 a1 ([] : List ByteArray) false 0))) = some r := h; clear h; obtain ⟨t106, A3, H⟩ := iB H; (try dsimp only at H)
 by_cases c4 : t106 = true
 ·
  subst c4
  have H1 : (some l0) = some r := by rw [if_pos rfl] at H; exact H
  clear H; have H := H1; clear H1
  obtain rfl := Option.some.inj H
  obtain ⟨Ao5, co5, eo5⟩ := Kd.R_slice HO0.out; subst eo5
  go_enter Tryd.func44, Tryd.ntmps44
  go_wp2_with (first | ((with_reducible refine gate_callee (f := 13) rfl ?_); refine gM (some 10) Tryd.func13 #[.slice Ao5 l0.length co5, .string a1] ?_; (with_reducible refine (r48_Has.calls k _ _ l0 a1 true _ ?side1 ?side2 A3.out).mono ?_); (case side1 => repeat (first | exact (Kd.R_reads' HO0.out).2.2 | (with_reducible refine Kd.C_alloc ?_ _) | (with_reducible refine Kd.C_drewN ?_ _) | (with_reducible refine Kd.C_drew ?_))); (case side2 => exact (Kd.R_reads' HO0.out).2.1); rintro e w' ⟨rfl, ⟨nd, rfl⟩⟩; refine ⟨_, rfl, ?_⟩))
  go_ret
  exact ⟨_, rT, oR HO0.out, bB HB.out, by repeat (first | (with_reducible first | exact HK.out | apply Kept.alloc | apply Kept.drewN | apply Kept.drew) | exact HK.out)⟩
 replace c4 := Bool.eq_false_iff.mpr c4; subst c4
 have H1 : (r48_Insert.l0 k l0 a1 ([] : List ByteArray) false 0) = some r := by rw [if_neg (show ¬ (false = true) by decide)] at H; exact H
 clear H; have H := H1; clear H1
 have H' := aM H
 clear H; obtain ⟨Ao6, co6, eo6⟩ := Kd.R_slice HO0.out; subst eo6
 go_enter Tryd.func44, Tryd.ntmps44
 go_wp2_with (first | ((with_reducible refine gate_callee (f := 13) rfl ?_); refine gM (some 10) Tryd.func13 #[.slice Ao6 l0.length co6, .string a1] ?_; (with_reducible refine (r48_Has.calls k _ _ l0 a1 false _ ?side1 ?side2 A3.out).mono ?_); (case side1 => repeat (first | exact (Kd.R_reads' HO0.out).2.2 | (with_reducible refine Kd.C_alloc ?_ _) | (with_reducible refine Kd.C_drewN ?_ _) | (with_reducible refine Kd.C_drew ?_))); (case side2 => exact (Kd.R_reads' HO0.out).2.1); rintro e w' ⟨rfl, ⟨nd, rfl⟩⟩; refine ⟨_, rfl, ?_⟩))
 go_loopg [5, 6, 7] k (fun kq v5 v6 v7 w' => ∃ (x5_1 : List ByteArray) (x6_1 : Bool) (x7_1 : Int), v6 = .bool x6_1 ∧ v7 = .int .i64 x7_1 ∧ Aside0 (r48_Insert.l0 kq l0 a1 x5_1 x6_1 x7_1 = some r) ∧ Aside0 (kq ≤ k) ∧ Aside0 (Kd.R Kd.string 9 w' w0.heap.size (fun k_ => (P0_ k_ ∨ w.heap.size ≤ k_) ∧ some k_ ≠ (v5 : Value).ownBlock) (.slice Ao6 l0.length co6) l0) ∧ Aside0 (Kd.R Kd.string 9 w' w0.heap.size (fun k_ => (P0_ k_ ∨ w.heap.size ≤ k_) ∧ some k_ ≠ ((.slice Ao6 l0.length co6) : Value).ownBlock) v5 x5_1) ∧ Aside0 (Kept w w' (fun k_ => P0_ k_)) ∧ Aside0 (Below w0.heap.size w0 w'))
 case atStart => exact ⟨(([] : List ByteArray)), (false), (0), eT, eT, H', ⟨Nat.le_refl _⟩, ⟨by refine oR ?_; exact Kd.R_mono HO0.out (fun _ hk => ⟨hk, (by simp [Value.ownBlock])⟩)⟩, ⟨nT⟩, ⟨by repeat (first | (with_reducible first | exact HK.out | apply Kept.alloc | apply Kept.drewN | apply Kept.drew) | exact HK.out)⟩, ⟨bB HB.out⟩⟩
 clear H'; obtain ⟨x5_1, x6_1, x7_1, rfl, rfl, HA, HK1, HO_0, HO_5, HK, HB⟩ := hrel
 cases gk with
 | zero => exact absurd HA.out (by simp [r48_Insert.l0])
 | succ k1 =>
  have H := HA.out; clear HA
  simp only [r48_Insert.l0] at H
  by_cases c7 : x7_1 < (l0.length : Int)
  rotate_left
  ·
   rw [if_neg c7] at H
   have c7b0 := decide_eq_false c7; clear c7
   by_cases c20 : x6_1 = true
   ·
    subst c20
    have H1 : (some x5_1) = some r := by rw [if_pos rfl] at H; exact H
    clear H; have H := H1; clear H1
    obtain rfl := Option.some.inj H
    go_wp2
    go_ret
    exact ⟨_, rT, by refine oR ?_; exact Kd.R_mono HO_5.out (fun _ hk => hk.1), bB HB.out, by repeat (first | (with_reducible first | exact HK.out | apply Kept.alloc | apply Kept.drewN | apply Kept.drew) | exact HK.out)⟩
   replace c20 := Bool.eq_false_iff.mpr c20; subst c20
   have H1 : (if x5_1.length < 8796093022208 then (some (x5_1 ++ [a1])) else (none)) = some r := by rw [if_neg (show ¬ (false = true) by decide)] at H; exact H
   clear H; have H := H1; clear H1
   by_cases c21 : x5_1.length < 8796093022208
   rotate_left
   ·
    rw [if_neg c21] at H
    exact absurd H (by simp)


   rw [if_pos c21] at H; have LMc21 := aM c21; clear c21
   obtain ⟨y123, hy123⟩ : ∃ y_ : List ByteArray, y_ = (x5_1 ++ [a1]) := ⟨_, rfl⟩
   replace H : (some y123) = some r := yT hy123 H
   have Ny123 := aM hy123; clear hy123
   obtain rfl := Option.some.inj H
   go_wp2_with (first | ((with_reducible refine gate_builtin (b := .append) (xs := #[.tmp 41, .tmp 43]) rfl ?_); at_builtin; refine Kd.R_append Kd.string (w0 := w0) w0.heap.size rfl (.tmp 41) (.tmp 43) 34 9 (.string ⟨#[]⟩) 16 rfl Tryd.underlying34 info9 rfl (by decide) (by omega) u5 x5_1 a1 [.string a1] (fun k_ => (P0_ k_ ∨ w.heap.size ≤ k_) ∧ some k_ ≠ (.slice Ao6 l0.length co6 : Value).ownBlock) (fun _ => False) rfl rfl ?aP (fun _ hk => hk.elim) ?aF ?aO ?aB ?aS ?aL ?_; (case aP => exact rfl); (case aB => exact (bB HB.out)); (case aF => exact (fun k_ hk => ⟨(.inr (Nat.le_trans (by first | exact HK.out.1 | exact (show Kept w _ (fun k_ => P0_ k_) from by repeat (first | (with_reducible first | exact HK.out | apply Kept.alloc | apply Kept.drewN | apply Kept.drew) | exact HK.out)).1) hk)), Kd.fresh' (Kd.R_lt (oR HO_0.out)) k_ hk⟩)); (case aO => exact (oR HO_5.out)); (case aS => exact (below_size (bB HB.out))); (case aL => have := LMc21.out; omega); intro v124 w22 ho hb hg hat; rw [← Ny123.out] at ho; replace HO_0 := aM (Kd.R_after (ok := (fun k_ => (P0_ k_ ∨ w.heap.size ≤ k_))) (oR HO_0.out) hg hat); replace HB := aM (hb); replace HK := aM (Kept.of_grown (S := (fun k_ => P0_ k_)) hg (by repeat (first | (with_reducible first | exact HK.out | apply Kept.alloc | apply Kept.drewN | apply Kept.drew) | exact HK.out)) (fun k_ e_ => (HO_5.out.1 k_ e_).1)); have HO125 := aM (ho); clear HO_5; clear ho hb hg hat))
   go_ret
   exact ⟨_, rT, by refine oR ?_; exact Kd.R_mono HO125.out (fun _ hk => hk.1), bB HB.out, by repeat (first | (with_reducible first | exact HK.out | apply Kept.alloc | apply Kept.drewN | apply Kept.drew) | exact HK.out)⟩
  rw [if_pos c7] at H; have c7b0 := decide_eq_true c7; clear c7
  by_cases c8 : x6_1 = true
  ·
   subst c8
   have H1 : (if 0 ≤ x7_1 then (if x5_1.length < 8796093022208 then (r48_Insert.l0 k1 l0 a1 (x5_1 ++ [rdOf ByteArray.empty l0 x7_1]) true (wrap64 (x7_1 + 1))) else (none)) else (none)) = some r := by rw [if_pos rfl] at H; exact H
   clear H; have H := H1; clear H1
   obtain ⟨c9, H⟩ := iP H; have c9b0 := decide_eq_true c9; clear c9
   obtain ⟨c10, H⟩ := iP H; have LMc10 := aM c10; clear c10
   obtain ⟨y108, hy108⟩ : ∃ y_ : List ByteArray, y_ = (x5_1 ++ [rdOf ByteArray.empty l0 x7_1]) := ⟨_, rfl⟩
   replace H : (r48_Insert.l0 k1 l0 a1 y108 true (wrap64 (x7_1 + 1))) = some r := yT hy108 H
   have Ny108 := aM hy108; clear hy108
   have H' := aM H
   clear H; have p107 : 0 ≤ (x7_1 : Int) := dT; have q107 : x7_1 < (l0.length : Int) := dT
   try (obtain ⟨Aoz107, coz107, eoz107⟩ := Kd.R_slice HO_0.out; subst eoz107)
   obtain ⟨ad107, e107, hx107_0⟩ := Kd.at_string (Kd.R_reads' HO_0.out).2.2 x7_1 p107 q107; cases e107; replace p107 := eq_true p107; replace q107 := eq_true q107
   go_wp2_with (first | ((with_reducible refine gate_builtin (b := .append) (xs := #[.tmp 32, .tmp 37]) rfl ?_); at_builtin; refine Kd.R_append Kd.string (w0 := w0) w0.heap.size rfl (.tmp 32) (.tmp 37) 34 9 (.string ⟨#[]⟩) 16 rfl Tryd.underlying34 info9 rfl (by decide) (by omega) u5 x5_1 (rdOf ByteArray.empty l0 x7_1) [.string (rdOf ByteArray.empty l0 x7_1)] (fun k_ => (P0_ k_ ∨ w.heap.size ≤ k_) ∧ some k_ ≠ (.slice (some ad107) l0.length co6 : Value).ownBlock) (fun _ => False) rfl rfl ?aP (fun _ hk => hk.elim) ?aF ?aO ?aB ?aS ?aL ?_; (case aP => exact rfl); (case aB => exact (bB HB.out)); (case aF => exact (fun k_ hk => ⟨(.inr (Nat.le_trans (by first | exact HK.out.1 | exact (show Kept w _ (fun k_ => P0_ k_) from by repeat (first | (with_reducible first | exact HK.out | apply Kept.alloc | apply Kept.drewN | apply Kept.drew) | exact HK.out)).1) hk)), Kd.fresh' (Kd.R_lt (oR HO_0.out)) k_ hk⟩)); (case aO => exact (oR HO_5.out)); (case aS => exact (below_size (bB HB.out))); (case aL => have := LMc10.out; omega); intro v109 w11 ho hb hg hat; rw [← Ny108.out] at ho; replace HO_0 := aM (Kd.R_after (ok := (fun k_ => (P0_ k_ ∨ w.heap.size ≤ k_))) (oR HO_0.out) hg hat); replace HB := aM (hb); replace HK := aM (Kept.of_grown (S := (fun k_ => P0_ k_)) hg (by repeat (first | (with_reducible first | exact HK.out | apply Kept.alloc | apply Kept.drewN | apply Kept.drew) | exact HK.out)) (fun k_ e_ => (HO_5.out.1 k_ e_).1)); have HO110 := aM (ho); clear HO_5; clear ho hb hg hat))
   go_roundg k1
   case measure => have := HK1.out; omega
   case rel => exact ⟨(y108), (true), (wrap64 (x7_1 + 1)), eT, eT, H', ⟨by have := HK1.out; omega⟩, ⟨oR HO_0.out⟩, ⟨oR HO110.out⟩, ⟨by repeat (first | (with_reducible first | exact HK.out | apply Kept.alloc | apply Kept.drewN | apply Kept.drew) | exact HK.out)⟩, ⟨bB HB.out⟩⟩
  replace c8 := Bool.eq_false_iff.mpr c8; subst c8
  have H1 : (if 0 ≤ x7_1 then (if (Op.bytesLess a1.toList ((rdOf ByteArray.empty l0 x7_1).toList)) = true then (if x5_1.length < 8796093022208 then ((some (x5_1 ++ [a1] : List ByteArray)).bind fun y112 => (if y112.length < 8796093022208 then (r48_Insert.l0 k1 l0 a1 (y112 ++ [rdOf ByteArray.empty l0 x7_1]) true (wrap64 (x7_1 + 1))) else (none))) else (none)) else (if x5_1.length < 8796093022208 then (r48_Insert.l0 k1 l0 a1 (x5_1 ++ [rdOf ByteArray.empty l0 x7_1]) false (wrap64 (x7_1 + 1))) else (none))) else (none)) = some r := by rw [if_neg (show ¬ (false = true) by decide)] at H; exact H
  clear H; have H := H1; clear H1
  obtain ⟨c12, H⟩ := iP H; have c12b0 := decide_eq_true c12; clear c12
  by_cases c13 : (Op.bytesLess a1.toList ((rdOf ByteArray.empty l0 x7_1).toList)) = true
  rotate_left
  ·
   rw [if_neg c13] at H
   have c13b0 : (Op.bytesLess a1.toList ((rdOf ByteArray.empty l0 x7_1).toList)) = false := by simpa using c13
   clear c13
   obtain ⟨c18, H⟩ := iP H; have LMc18 := aM c18; clear c18
   obtain ⟨y120, hy120⟩ : ∃ y_ : List ByteArray, y_ = (x5_1 ++ [rdOf ByteArray.empty l0 x7_1]) := ⟨_, rfl⟩
   replace H : (r48_Insert.l0 k1 l0 a1 y120 false (wrap64 (x7_1 + 1))) = some r := yT hy120 H
   have Ny120 := aM hy120; clear hy120
   have H' := aM H
   clear H; have p111 : 0 ≤ (x7_1 : Int) := dT; have q111 : x7_1 < (l0.length : Int) := dT
   try (obtain ⟨Aoz111, coz111, eoz111⟩ := Kd.R_slice HO_0.out; subst eoz111)
   obtain ⟨ad111, e111, hx111_0⟩ := Kd.at_string (Kd.R_reads' HO_0.out).2.2 x7_1 p111 q111; cases e111; replace p111 := eq_true p111; replace q111 := eq_true q111; have p119 : 0 ≤ (x7_1 : Int) := dT; have q119 : x7_1 < (l0.length : Int) := dT
   try (obtain ⟨Aoz119, coz119, eoz119⟩ := Kd.R_slice HO_0.out; subst eoz119)
   obtain ⟨ad119, e119, hx119_0⟩ := Kd.at_string (Kd.R_reads' HO_0.out).2.2 x7_1 p119 q119; obtain rfl : ad111 = ad119 := (by injection e119); replace p119 := eq_true p119; replace q119 := eq_true q119
   go_wp2_with (first | ((with_reducible refine gate_builtin (b := .append) (xs := #[.tmp 32, .tmp 37]) rfl ?_); at_builtin; refine Kd.R_append Kd.string (w0 := w0) w0.heap.size rfl (.tmp 32) (.tmp 37) 34 9 (.string ⟨#[]⟩) 16 rfl Tryd.underlying34 info9 rfl (by decide) (by omega) u5 x5_1 (rdOf ByteArray.empty l0 x7_1) [.string (rdOf ByteArray.empty l0 x7_1)] (fun k_ => (P0_ k_ ∨ w.heap.size ≤ k_) ∧ some k_ ≠ (.slice (some ad111) l0.length co6 : Value).ownBlock) (fun _ => False) rfl rfl ?aP (fun _ hk => hk.elim) ?aF ?aO ?aB ?aS ?aL ?_; (case aP => exact rfl); (case aB => exact (bB HB.out)); (case aF => exact (fun k_ hk => ⟨(.inr (Nat.le_trans (by first | exact HK.out.1 | exact (show Kept w _ (fun k_ => P0_ k_) from by repeat (first | (with_reducible first | exact HK.out | apply Kept.alloc | apply Kept.drewN | apply Kept.drew) | exact HK.out)).1) hk)), Kd.fresh' (Kd.R_lt (oR HO_0.out)) k_ hk⟩)); (case aO => exact (oR HO_5.out)); (case aS => exact (below_size (bB HB.out))); (case aL => have := LMc18.out; omega); intro v121 w19 ho hb hg hat; rw [← Ny120.out] at ho; replace HO_0 := aM (Kd.R_after (ok := (fun k_ => (P0_ k_ ∨ w.heap.size ≤ k_))) (oR HO_0.out) hg hat); replace HB := aM (hb); replace HK := aM (Kept.of_grown (S := (fun k_ => P0_ k_)) hg (by repeat (first | (with_reducible first | exact HK.out | apply Kept.alloc | apply Kept.drewN | apply Kept.drew) | exact HK.out)) (fun k_ e_ => (HO_5.out.1 k_ e_).1)); have HO122 := aM (ho); clear HO_5; clear ho hb hg hat))
   go_roundg k1
   case measure => have := HK1.out; omega
   case rel => exact ⟨(y120), (false), (wrap64 (x7_1 + 1)), eT, eT, H', ⟨by have := HK1.out; omega⟩, ⟨oR HO_0.out⟩, ⟨oR HO122.out⟩, ⟨by repeat (first | (with_reducible first | exact HK.out | apply Kept.alloc | apply Kept.drewN | apply Kept.drew) | exact HK.out)⟩, ⟨bB HB.out⟩⟩
  rw [if_pos c13] at H; have c13b0 : (Op.bytesLess a1.toList ((rdOf ByteArray.empty l0 x7_1).toList)) = true := c13; clear c13
  obtain ⟨c14, H⟩ := iP H; have LMc14 := aM c14; clear c14
  obtain ⟨y112, hy112⟩ : ∃ y_ : List ByteArray, y_ = (x5_1 ++ [a1]) := ⟨_, rfl⟩
  replace H : (if y112.length < 8796093022208 then (r48_Insert.l0 k1 l0 a1 (y112 ++ [rdOf ByteArray.empty l0 x7_1]) true (wrap64 (x7_1 + 1))) else (none)) = some r := yT hy112 H
  have Ny112 := aM hy112; clear hy112
  obtain ⟨c15, H⟩ := iP H; have LMc15 := aM c15; clear c15
  obtain ⟨y116, hy116⟩ : ∃ y_ : List ByteArray, y_ = (y112 ++ [rdOf ByteArray.empty l0 x7_1]) := ⟨_, rfl⟩
  replace H : (r48_Insert.l0 k1 l0 a1 y116 true (wrap64 (x7_1 + 1))) = some r := yT hy116 H
  have Ny116 := aM hy116; clear hy116
  have H' := aM H
  clear H; have p111 : 0 ≤ (x7_1 : Int) := dT; have q111 : x7_1 < (l0.length : Int) := dT
  try (obtain ⟨Aoz111, coz111, eoz111⟩ := Kd.R_slice HO_0.out; subst eoz111)
  obtain ⟨ad111, e111, hx111_0⟩ := Kd.at_string (Kd.R_reads' HO_0.out).2.2 x7_1 p111 q111; cases e111; replace p111 := eq_true p111; replace q111 := eq_true q111
  go_wp2_with (first | ((with_reducible refine gate_builtin (b := .append) (xs := #[.tmp 28, .tmp 30]) rfl ?_); at_builtin; refine Kd.R_append Kd.string (w0 := w0) w0.heap.size rfl (.tmp 28) (.tmp 30) 34 9 (.string ⟨#[]⟩) 16 rfl Tryd.underlying34 info9 rfl (by decide) (by omega) u5 x5_1 a1 [.string a1] (fun k_ => (P0_ k_ ∨ w.heap.size ≤ k_) ∧ some k_ ≠ (.slice (some ad111) l0.length co6 : Value).ownBlock) (fun _ => False) rfl rfl ?aP (fun _ hk => hk.elim) ?aF ?aO ?aB ?aS ?aL ?_; (case aP => exact rfl); (case aB => exact (bB HB.out)); (case aF => exact (fun k_ hk => ⟨(.inr (Nat.le_trans (by first | exact HK.out.1 | exact (show Kept w _ (fun k_ => P0_ k_) from by repeat (first | (with_reducible first | exact HK.out | apply Kept.alloc | apply Kept.drewN | apply Kept.drew) | exact HK.out)).1) hk)), Kd.fresh' (Kd.R_lt (oR HO_0.out)) k_ hk⟩)); (case aO => exact (oR HO_5.out)); (case aS => exact (below_size (bB HB.out))); (case aL => have := LMc14.out; omega); intro v113 w16 ho hb hg hat; rw [← Ny112.out] at ho; replace HO_0 := aM (Kd.R_after (ok := (fun k_ => (P0_ k_ ∨ w.heap.size ≤ k_))) (oR HO_0.out) hg hat); replace HB := aM (hb); replace HK := aM (Kept.of_grown (S := (fun k_ => P0_ k_)) hg (by repeat (first | (with_reducible first | exact HK.out | apply Kept.alloc | apply Kept.drewN | apply Kept.drew) | exact HK.out)) (fun k_ e_ => (HO_5.out.1 k_ e_).1)); have HO114 := aM (ho); clear HO_5; clear ho hb hg hat; have p115 : 0 ≤ (x7_1 : Int) := dT; have q115 : x7_1 < (l0.length : Int) := dT; obtain ⟨ad115, e115, hx115_0⟩ := Kd.at_string (Kd.R_reads' HO_0.out).2.2 x7_1 p115 q115; obtain rfl : ad111 = ad115 := (by injection e115); replace p115 := eq_true p115; replace q115 := eq_true q115) | ((with_reducible refine gate_builtin (b := .append) (xs := #[.tmp 32, .tmp 37]) rfl ?_); at_builtin; refine Kd.R_append Kd.string (w0 := w0) w0.heap.size rfl (.tmp 32) (.tmp 37) 34 9 (.string ⟨#[]⟩) 16 rfl Tryd.underlying34 info9 rfl (by decide) (by omega) v113 y112 (rdOf ByteArray.empty l0 x7_1) [.string (rdOf ByteArray.empty l0 x7_1)] (fun k_ => (P0_ k_ ∨ w.heap.size ≤ k_) ∧ some k_ ≠ (.slice (some ad111) l0.length co6 : Value).ownBlock) (fun _ => False) rfl rfl ?aP (fun _ hk => hk.elim) ?aF ?aO ?aB ?aS ?aL ?_; (case aP => exact rfl); (case aB => exact (bB HB.out)); (case aF => exact (fun k_ hk => ⟨(.inr (Nat.le_trans (by first | exact HK.out.1 | exact (show Kept w _ (fun k_ => P0_ k_) from by repeat (first | (with_reducible first | exact HK.out | apply Kept.alloc | apply Kept.drewN | apply Kept.drew) | exact HK.out)).1) hk)), Kd.fresh' (Kd.R_lt (oR HO_0.out)) k_ hk⟩)); (case aO => exact (oR HO114.out)); (case aS => exact (below_size (bB HB.out))); (case aL => have := LMc15.out; omega); intro v117 w17 ho hb hg hat; rw [← Ny116.out] at ho; replace HO_0 := aM (Kd.R_after (ok := (fun k_ => (P0_ k_ ∨ w.heap.size ≤ k_))) (oR HO_0.out) hg hat); replace HB := aM (hb); replace HK := aM (Kept.of_grown (S := (fun k_ => P0_ k_)) hg (by repeat (first | (with_reducible first | exact HK.out | apply Kept.alloc | apply Kept.drewN | apply Kept.drew) | exact HK.out)) (fun k_ e_ => (HO114.out.1 k_ e_).1)); have HO118 := aM (ho); clear HO114; clear ho hb hg hat))
  go_roundg k1
  case measure => have := HK1.out; omega
  case rel => exact ⟨(y116), (true), (wrap64 (x7_1 + 1)), eT, eT, H', ⟨by have := HK1.out; omega⟩, ⟨oR HO_0.out⟩, ⟨oR HO118.out⟩, ⟨by repeat (first | (with_reducible first | exact HK.out | apply Kept.alloc | apply Kept.drewN | apply Kept.drew) | exact HK.out)⟩, ⟨bB HB.out⟩⟩
/-! ### r48_Activities: function 21 -/
mutual
def r48_Activities.l0 : Nat → List (List ByteArray) → List ByteArray → Int → Option (List ByteArray)
 | 0, _, _, _ => none
 | k + 1, x0, x3, x4 => if x4 < (x0.length : Int) then (r48_Activities.l1 k x0 x3 x4 0) else (some x3)
def r48_Activities.l1 : Nat → List (List ByteArray) → List ByteArray → Int → Int → Option (List ByteArray)
 | 0, _, _, _, _ => none
 | k + 1, x0, x3, x4, x5 => if 0 ≤ x4 then (if x4 < (x0.length : Int) then (if x5 < ((rd_L1 x0 x4).length : Int) then (if 0 ≤ x5 then ((r48_Insert.f k x3 (rdOf ByteArray.empty (rd_L1 x0 x4) x5)).bind fun t129 => (r48_Activities.l1 k x0 t129 x4 (wrap64 (x5 + 1)))) else (none)) else (r48_Activities.l0 k x0 x3 (wrap64 (x4 + 1)))) else (none)) else (none)
end
def r48_Activities.f (k : Nat) (l0 : List (List ByteArray)) : Option (List ByteArray) := r48_Activities.l0 k l0 ([] : List ByteArray) 0
theorem r48_Activities.mono_l : ∀ k, (∀ y0 y1 y2, LeO (r48_Activities.l0 k y0 y1 y2) (r48_Activities.l0 (k + 1) y0 y1 y2)) ∧ (∀ y0 y1 y2 y3, LeO (r48_Activities.l1 k y0 y1 y2 y3) (r48_Activities.l1 (k + 1) y0 y1 y2 y3))
 | 0 => ⟨fun _ _ _ r h => by simp [r48_Activities.l0] at h, fun _ _ _ _ r h => by simp [r48_Activities.l1] at h⟩
 | k + 1 => by
  obtain ⟨ih0, ih1⟩ := r48_Activities.mono_l k
  refine ⟨?_, ?_⟩ <;> intros <;> (first | unfold r48_Activities.l0 | unfold r48_Activities.l1)
  all_goals repeat' first
   | (with_reducible first | apply ih0 | apply ih1 | apply r48_Insert.mono | exact LeO.refl _ | exact LeO.none _ | refine LeO.ite ?_ ?_ | refine LeO.bind ?_ (fun _ => ?_))
theorem r48_Activities.mono : ∀ a0 k, LeO (r48_Activities.f k a0) (r48_Activities.f (k + 1) a0) := by
 intro a0 k
 obtain ⟨ih0, ih1⟩ := r48_Activities.mono_l k
 unfold r48_Activities.f
 repeat' first
   | (with_reducible first | apply ih0 | apply ih1 | apply r48_Insert.mono | exact LeO.refl _ | exact LeO.none _ | refine LeO.ite ?_ ?_ | refine LeO.bind ?_ (fun _ => ?_))
set_option maxHeartbeats 8000000 in
set_option maxRecDepth 100000 in
theorem r48_Activities.calls (k : Nat) (A0 : Option Addr) (c0 : Nat) (l0 : List (List ByteArray)) (r : List ByteArray) (w : World) (hr0 : Kd.C (Kd.slice 9 Kd.string) w A0 l0.length l0) (hc0 : l0.length ≤ c0) (h : r48_Activities.f k l0 = some r) :
  Calls Tryd.prog 21 #[.slice A0 l0.length c0] w fun e w' => ∃ v0_ : Value, e = .returned (v0_) ∧ Kd.R Kd.string 9 w' w.heap.size (fun _ => True) v0_ r ∧ Below w.heap.size w w' := by
 have HR0 := aM hr0; have HC0 := aM hc0; clear hr0 hc0; have HB := aM (Below.refl w.heap.size w); have H : (r48_Activities.l0 k l0 ([] : List ByteArray) 0) = some r := h; clear h
 have H' := aM H
 clear H
 go_enter Tryd.func21, Tryd.ntmps21
 go_wp2
 go_loopg [3, 4] k (fun kq v3 v4 w' => ∃ (x3_1 : List ByteArray) (x4_1 : Int), v4 = .int .i64 x4_1 ∧ Aside0 (r48_Activities.l0 kq l0 x3_1 x4_1 = some r) ∧ Aside0 (kq ≤ k) ∧ Aside0 (Kd.R Kd.string 9 w' w.heap.size (fun _ => True) v3 x3_1) ∧ Aside0 (Below w.heap.size w w'))
 case atStart => exact ⟨(([] : List ByteArray)), (0), eT, H', ⟨Nat.le_refl _⟩, ⟨nT⟩, ⟨bB HB.out⟩⟩
 clear H'; obtain ⟨x3_1, x4_1, rfl, HA, HK1, HO_3, HB⟩ := hrel
 cases gk with
 | zero => exact absurd HA.out (by simp [r48_Activities.l0])
 | succ k1 =>
  have H := HA.out; clear HA
  simp only [r48_Activities.l0] at H
  by_cases c2 : x4_1 < (l0.length : Int)
  rotate_left
  ·
   rw [if_neg c2] at H
   have c2b0 := decide_eq_false c2; clear c2
   obtain rfl := Option.some.inj H
   go_wp2
   go_ret
   exact ⟨_, rT, oR HO_3.out, bB HB.out⟩


  rw [if_pos c2] at H; have c2b0 := decide_eq_true c2; clear c2
  have H' := aM H
  clear H
  go_wp2
  go_loopg [3, 5] k1 (fun kq v3 v5 w' => ∃ (x3_2 : List ByteArray) (x5_2 : Int), v5 = .int .i64 x5_2 ∧ Aside0 (r48_Activities.l1 kq l0 x3_2 x4_1 x5_2 = some r) ∧ Aside0 (kq ≤ k1) ∧ Aside0 (Kd.R Kd.string 9 w' w.heap.size (fun _ => True) v3 x3_2) ∧ Aside0 (Below w.heap.size w w'))
  case atStart => exact ⟨(x3_1), (0), eT, H', ⟨Nat.le_refl _⟩, ⟨oR HO_3.out⟩, ⟨bB HB.out⟩⟩
  clear H'; obtain ⟨x3_2, x5_2, rfl, HA, HK2, HO_3, HB⟩ := hrel
  cases gk with
  | zero => exact absurd HA.out (by simp [r48_Activities.l1])
  | succ k2 =>
   have H := HA.out; clear HA
   simp only [r48_Activities.l1] at H
   obtain ⟨c3, H⟩ := iP H; have c3b0 := decide_eq_true c3; clear c3
   obtain ⟨c4, H⟩ := iP H; have c4b0 := decide_eq_true c4; clear c4
   by_cases c5 : x5_2 < ((rd_L1 l0 x4_1).length : Int)
   rotate_left
   ·
    rw [if_neg c5] at H
    have c5b0 := decide_eq_false c5; clear c5
    have H' := aM H
    clear H; obtain ⟨p126, q126, ad126, A126_0, c126_0, e126, hx126_0, hl126_0, hi126_0⟩ := aT (at_L1 HR0.out x4_1); cases e126
    try replace hx126_0 := kX HB.out hx126_0
    have HR126_0 := aM hi126_0; have HC126_0 := aM hl126_0; clear hi126_0 hl126_0
    go_wp2
    go_roundg k2
    case measure => have := HK1.out; have := HK2.out; omega
    case rel => exact ⟨(x3_2), (wrap64 (x4_1 + 1)), eT, H', ⟨by have := HK1.out; have := HK2.out; omega⟩, ⟨oR HO_3.out⟩, ⟨bB HB.out⟩⟩
   rw [if_pos c5] at H; have c5b0 := decide_eq_true c5; clear c5
   obtain ⟨c6, H⟩ := iP H; have c6b0 := decide_eq_true c6; clear c6; obtain ⟨t129, A7, H⟩ := iB H; (try dsimp only at H)
   have H' := aM H
   clear H; obtain ⟨p126, q126, ad126, A126_0, c126_0, e126, hx126_0, hl126_0, hi126_0⟩ := aT (at_L1 HR0.out x4_1); cases e126
   try replace hx126_0 := kX HB.out hx126_0
   have HR126_0 := aM hi126_0; have HC126_0 := aM hl126_0; clear hi126_0 hl126_0; obtain ⟨p127, q127, ad127, A127_0, c127_0, e127, hx127_0, hl127_0, hi127_0⟩ := aT (at_L1 HR0.out x4_1); obtain rfl : ad126 = ad127 := (by injection e127)
   try replace hx127_0 := kX HB.out hx127_0
   have HR127_0 := aM hi127_0; have HC127_0 := aM hl127_0; clear hi127_0 hl127_0; have ea_ := Option.some.inj (hx126_0.symm.trans hx127_0); injection ea_ with ea_ en_ ec_; subst ea_; subst ec_; clear en_; obtain ⟨p128, q128, ad128, e128, hx128_0⟩ := aT (Kd.at_string HR127_0.out x5_2); cases e128
   try replace hx128_0 := kX HB.out hx128_0; obtain ⟨Ao8, co8, eo8⟩ := Kd.R_slice HO_3.out; subst eo8
   go_wp2_with (first | ((with_reducible refine gate_callee (f := 44) rfl ?_); refine gM (some 29) Tryd.func44 #[.slice Ao8 x3_2.length co8, .string (rdOf ByteArray.empty (rd_L1 l0 x4_1) x5_2)] ?_; (with_reducible refine (r48_Insert.calls k2 (fun k_ => some k_ = (.slice Ao8 x3_2.length co8 : Value).ownBlock) (.slice Ao8 x3_2.length co8) x3_2 (rdOf ByteArray.empty (rd_L1 l0 x4_1) x5_2) t129 w _ ?side1 ?side2 A7.out).mono ?_); (case side1 => repeat (first | (with_reducible first | exact HB.out | apply below_alloc | apply pw_below_drewN | apply below_drew1) | exact HB.out)); (case side2 => exact Kd.R_tight rfl HO_3.out); rintro e w9 ⟨v130, rfl, ho0, hb, hkp⟩; refine ⟨_, rfl, ?_⟩; have HO131 := aM (Kd.R_mono (ok' := fun k_ => True) ho0 (fun k_ hk_ => trivial)); replace HB := aM (hb); clear HO_3; clear hb hkp ho0))
   go_roundg k2
   case measure => have := HK1.out; have := HK2.out; omega
   case rel => exact ⟨(t129), (wrap64 (x5_2 + 1)), eT, H', ⟨by have := HK1.out; have := HK2.out; omega⟩, ⟨oR HO131.out⟩, ⟨bB HB.out⟩⟩
/-! ### l49_many: function 7 -/
def l49_many.f (k : Nat) (l0 : List (List ByteArray)) : Option (Bool) := (r48_Activities.f k l0).bind fun t132 => (if (t132.length : Int) > 5 then (some (decide ((t132.length : Int) ≤ 12))) else (some false))
theorem l49_many.mono : ∀ a0 k, LeO (l49_many.f k a0) (l49_many.f (k + 1) a0) := by
 intro a0 k
 unfold l49_many.f
 repeat' first
   | (with_reducible first | apply r48_Activities.mono | exact LeO.refl _ | exact LeO.none _ | refine LeO.ite ?_ ?_ | refine LeO.bind ?_ (fun _ => ?_))
set_option maxHeartbeats 8000000 in
set_option maxRecDepth 100000 in
theorem l49_many.calls (k : Nat) (A0 : Option Addr) (c0 : Nat) (l0 : List (List ByteArray)) (r : Bool) (w : World) (hr0 : Kd.C (Kd.slice 9 Kd.string) w A0 l0.length l0) (hc0 : l0.length ≤ c0) (h : l49_many.f k l0 = some r) :
  Calls Tryd.prog 7 #[.slice A0 l0.length c0] w fun e w' => e = .returned (.bool r) ∧ Below w.heap.size w w' := by
 have HR0 := aM hr0; have HC0 := aM hc0; clear hr0 hc0; have HB := aM (Below.refl w.heap.size w)
 have H : ((r48_Activities.f k l0).bind fun t132 => (if (t132.length : Int) > 5 then (some (decide ((t132.length : Int) ≤ 12))) else (some false))) = some r := h
 clear h; obtain ⟨t132, A2, H⟩ := iB H; (try dsimp only at H)
 by_cases c3 : (t132.length : Int) > 5
 ·
  rw [if_pos c3] at H
  have c3b0 : decide (5 < (t132.length : Int)) = true := decide_eq_true c3; have c3b1 : decide (5 < t132.length) = true := decide_eq_true (by omega); clear c3
  obtain rfl := Option.some.inj H
  go_enter Tryd.func7, Tryd.ntmps7
  go_wp2_with (first | ((with_reducible refine gate_callee (f := 21) rfl ?_); refine gM (some 5) Tryd.func21 #[.slice A0 l0.length c0] ?_; (with_reducible refine (r48_Activities.calls k _ _ l0 t132 _ ?side1 ?side2 A2.out).mono ?_); (case side1 => repeat (first | exact HR0.out | (with_reducible refine Kd.C_alloc ?_ _) | (with_reducible refine Kd.C_drewN ?_ _) | (with_reducible refine Kd.C_drew ?_))); (case side2 => exact HC0.out); rintro e w4 ⟨v133, rfl, ho0, hb⟩; refine ⟨_, rfl, ?_⟩; have HO134 := aM (Kd.R_lower ho0 (below_size (bB HB.out))); replace HB := aM (below_step (bB HB.out) hb); clear hb ho0; obtain ⟨Ao5, co5, eo5⟩ := Kd.R_slice HO134.out; subst eo5))
  go_ret
  exact ⟨rT, bB HB.out⟩
 rw [if_neg c3] at H; have c3b0 : decide (5 < (t132.length : Int)) = false := decide_eq_false c3; have c3b1 : decide (5 < t132.length) = false := decide_eq_false (by omega); clear c3
 obtain rfl := Option.some.inj H
 go_enter Tryd.func7, Tryd.ntmps7
 go_wp2_with (first | ((with_reducible refine gate_callee (f := 21) rfl ?_); refine gM (some 5) Tryd.func21 #[.slice A0 l0.length c0] ?_; (with_reducible refine (r48_Activities.calls k _ _ l0 t132 _ ?side1 ?side2 A2.out).mono ?_); (case side1 => repeat (first | exact HR0.out | (with_reducible refine Kd.C_alloc ?_ _) | (with_reducible refine Kd.C_drewN ?_ _) | (with_reducible refine Kd.C_drew ?_))); (case side2 => exact HC0.out); rintro e w6 ⟨v133, rfl, ho0, hb⟩; refine ⟨_, rfl, ?_⟩; have HO134 := aM (Kd.R_lower ho0 (below_size (bB HB.out))); replace HB := aM (below_step (bB HB.out) hb); clear hb ho0; obtain ⟨Ao7, co7, eo7⟩ := Kd.R_slice HO134.out; subst eo7))
 go_ret
 exact ⟨rT, bB HB.out⟩




section
-- STUBBED 48
/-! ### e_insert: function 48: by hand -/
open Go.Proofs.YtejchnmhlcbfcaaDoor.Iter

def lessB (a b : ByteArray) : Bool := Op.bytesLess a.toList b.toList
def posS (out : List ByteArray) (s : ByteArray) : Nat := (out.takeWhile (lessB · s)).length
def insS (out : List ByteArray) (s : ByteArray) : List ByteArray := if (out[posS out s]?).map (·.toList) = some s.toList then out else out.take (posS out s) ++ s :: out.drop (posS out s)
def e_insert.f (l0 : List ByteArray) (a1 : ByteArray) : Option (List ByteArray) := if l0.length ≤ 1099511627776 then some (insS l0 a1) else none

theorem takeWhile_atS {α : Type} (p : α → Bool) : ∀ (l : List α) (j : Nat), (∀ q, (h : q < l.length) → q < j → p l[q] = true) → j ≤ l.length → (∀ h : j < l.length, p l[j] = false) → (l.takeWhile p).length = j
 | [], j, _, h2, _ => by simp at h2; simp [h2]
 | x :: l, 0, _, _, h3 => by
  have := h3 (by simp)
  simp at this
  simp [this]
 | x :: l, j + 1, h1, h2, h3 => by
  have hx : p x = true := h1 0 (by simp) (by omega)
  rw [List.takeWhile_cons, if_pos hx, List.length_cons, takeWhile_atS p l j (fun q hq hj => h1 (q + 1) (by simp; omega) (by omega)) (by simp at h2; omega) (fun h => h3 (by simp; omega))]

set_option maxHeartbeats 8000000 in
set_option maxRecDepth 100000 in
theorem e_insert.calls (P0_ : Nat → Prop) (u9000_ : Value) (l0 : List ByteArray) (a1 : ByteArray) (r : List ByteArray) (w0 w : World) (hB : Below w0.heap.size w0 w) (ho0 : Kd.R Kd.string 9 w w0.heap.size P0_ u9000_ l0) (h : e_insert.f l0 a1 = some r) :
  Calls Tryd.prog 48 #[u9000_, .string a1] w fun e w' => ∃ v0_ : Value, e = .returned (v0_) ∧ Kd.R Kd.string 9 w' w0.heap.size (fun k_ => (P0_ k_ ∨ w.heap.size ≤ k_)) v0_ r ∧ Below w0.heap.size w0 w' ∧ Kept w w' (fun k_ => P0_ k_) := by
 have HO := aM (show Kd.R Kd.string 9 w w0.heap.size (fun k_ => (P0_ k_ ∨ w.heap.size ≤ k_)) u9000_ l0 from Kd.R_mono ho0 (fun k_ hk => .inl hk))
 have HP0 := aM ho0.1
 have HB := aM hB
 have hbs : w0.heap.size ≤ w.heap.size := hB.size
 clear ho0 hB
 have hle : l0.length ≤ 1099511627776 := by
  unfold e_insert.f at h
  split at h
  ·assumption
  ·cases h
 have HF : Aside0 (r = insS l0 a1) := ⟨by
  unfold e_insert.f at h
  rw [if_pos hle] at h
  exact (Option.some.inj h).symm⟩
 clear h
 obtain ⟨A1, c1, rfl, hle1, hC⟩ := Kd.R_reads HO.out
 have HC := aM hC
 clear hC
 go_enter Tryd.func48, Tryd.ntmps48
 go_wp2
 go_loop [5] (fun v5 => ∃ j : Nat, v5 = .int .i64 j ∧ j ≤ l0.length ∧ Aside0 (∀ q, (h : q < l0.length) → q < j → lessB l0[q] a1 = true)) (fun v5 => l0.length - (intOf v5).toNat)
 case atStart => exact ⟨0, rfl, Nat.zero_le _, ⟨fun _ _ h => absurd h (Nat.not_lt_zero _)⟩⟩
 case round =>
  obtain ⟨j, rfl, hj, HQ⟩ := hrel
  by_cases hjl : j < l0.length
  ·obtain ⟨ad2, e2, hx2⟩ := Kd.at_string HC.out (j : Int) (by omega) (by omega)
   cases e2
   rw [Int.toNat_natCast] at hx2
   have hrd : rdOf ByteArray.empty l0 (j : Int) = l0[j] := by simp [rdOf, hjl]
   rw [hrd] at hx2
   obtain ⟨x, hxo⟩ : ∃ x, x = l0[j] := ⟨_, rfl⟩
   rw [← hxo] at hx2
   have HX := aM hxo
   clear hxo hrd
   cases hb : lessB x a1 with
   | true =>
    have hb' : Op.bytesLess x.toList a1.toList = true := hb
    have HB2 := aM hb
    clear hb
    go_wp2
    go_round
    case rel => exact ⟨j + 1, by go_num, by omega, ⟨fun q hq hlt2 => by
     by_cases e : q = j
     ·subst e; rw [← HX.out]; exact HB2.out
     ·exact HQ.out q hq (by omega)⟩⟩
    case measure => simp [intOf]; omega
   | false =>
    have HP : Aside0 (posS l0 a1 = j) := ⟨takeWhile_atS (lessB · a1) l0 j (fun q hq hlt2 => HQ.out q hq hlt2) (by omega) (fun _ => by rw [← HX.out]; exact hb)⟩
    have hb' : Op.bytesLess x.toList a1.toList = false := hb
    clear hb
    by_cases hxs : x.toList = a1.toList
    ·have HIN : Aside0 (insS l0 a1 = l0) := ⟨by unfold insS; rw [HP.out, List.getElem?_eq_getElem hjl, ← HX.out]; simp [hxs]⟩
     have hbeq : (x.toList == a1.toList) = true := beq_iff_eq.mpr hxs
     have hr : r = l0 := HF.out.trans HIN.out
     have HR := aM hr
     clear hxs hr
     go_wp2
     go_ret
     exact ⟨_, rfl, by rw [HR.out]; exact HO.out, HB.out, Kept.refl _ _⟩
    ·have HIN : Aside0 (insS l0 a1 = l0.take j ++ a1 :: l0.drop j) := ⟨by unfold insS; rw [HP.out, List.getElem?_eq_getElem hjl, ← HX.out]; simp [hxs]⟩
     have hbeq : (x.toList == a1.toList) = false := beq_eq_false_iff_ne.mpr hxs
     clear hxs
     go_wp2_with ((with_reducible refine gate_builtin (b := .append) (xs := #[.tmp 33, .tmp 34]) rfl ?_); at_builtin; refine Kd.R_append Kd.string (w0 := w0) w0.heap.size rfl (.tmp 33) (.tmp 34) 34 9 (.string ⟨#[]⟩) 16 rfl Tryd.underlying34 info9 rfl (by decide) (by omega) (.slice (some ad2) l0.length c1) l0 ⟨#[]⟩ [.string ⟨#[]⟩] (fun k_ => (P0_ k_ ∨ w.heap.size ≤ k_)) (fun _ => False) rfl rfl ?aP (fun _ hk => hk.elim) ?aF ?aO ?aB ?aS ?aL ?_; (case aP => exact rfl); (case aB => exact HB.out); (case aF => exact (fun _ hk => .inr hk)); (case aO => exact HO.out); (case aS => exact hbs); (case aL => omega); intro v' w4 ho hb4 hg hat; have HO4 := aM ho; have HB4 := aM hb4; have HG4 := aM hg; have hown' : w4.ownsRow w0.heap.size 9 1 v' (l0.length + 1) (encs Value.string l0 ++ [.string ⟨#[]⟩]) := (by simpa [encs] using Kd.own_of_R ho); have HOKG := aM ho.1; clear ho hb4 hg hat; rcases hown'.2 with ⟨_, h0⟩ | ⟨g, cap, cur, rfl, hbg, hhg, hnc, hcm, hcs, htk⟩; (exact absurd h0 (Nat.succ_ne_zero _)); have HHG := aM hhg; have HTK := aM htk; have HCS := aM hcs; clear hhg htk hcs hown')
     have hcl : cur.toList.length = cap := by simpa using HCS.out
     have HCP := aM (copy_cells (j := j) (n := l0.length) (by simp [encs]) (show j ≤ l0.length by omega) HTK.out HHG.out)
     have HL := aM (show ((encs Value.string l0).drop j).length = Nat.min (l0.length + 1 - j) (l0.length - j) from (show ((encs Value.string l0).drop j).length = l0.length - j by simp [encs]).trans (Nat.min_eq_right (by omega)).symm)
     have HFT := aM (show j + 1 + ((encs Value.string l0).drop j).length ≤ cur.toList.length by rw [hcl]; simp [encs]; omega)
     have H1C := aM (show ∀ v ∈ (encs Value.string l0).drop j, v.oneCell' = true from fun v hv => by
      have := List.mem_of_mem_drop hv
      simp only [encs, List.mem_map] at this
      obtain ⟨z, _, rfl⟩ := this
      rfl)
     have HS2 := aM (show (Tryd.prog.info? 9).map (·.size) = some 1 by kernel_rfl)
     have HHT := aM (show w4.heap[g]? = some (.cells cur.toList.toArray 9 (0, 0)) by simpa using HHG.out)
     have HOKg := aM (show P0_ g ∨ w.heap.size ≤ g from HOKG.out g rfl)
     have HE0 := aM (show l0.length ≤ j → ((encs Value.string l0).drop j).length = 0 from fun h => by simp [encs]; omega)
     have hj1 : (0 : Int) ≤ (j : Int) + 1 := by omega
     have hj2 : (j : Int) + 1 ≤ (l0.length : Int) + 1 := by omega
     have hj3 : (j : Int) ≤ (l0.length : Int) + 1 := by omega
     have hc2 : ¬ cap = j := by omega
     have hjt : ((j : Int) + 1).toNat = j + 1 := by omega
     have hc1 : ¬ cap = j + 1 := by omega
     have hjw : IntKind.i64.wrap ((j : Int) + 1) = (j : Int) + 1 := IntWalk.i64_in _ (by omega)
     go_region_law ((with_reducible refine step_copy_g rfl (.tmp 39) (.tmp 42) 34 34 rfl 9 Tryd.underlying34 HS2.out (some ⟨g, j + 1, none⟩) (some ⟨g, j, none⟩) (l0.length - j) (cap - (j + 1)) (l0.length + 1 - j) (cap - j) ?g4 ?g5 g (j + 1) cur.toList 9 ?g1 ((encs Value.string l0).drop j) HL.out ?g2 HFT.out H1C.out ?_); (case g4 => go_simp); (case g5 => go_simp); (case g1 => exact HHT.out); (case g2 => exact (fun _ => ⟨rfl, ⟨g, j, none⟩, rfl, HCP.out⟩)); intro w5 hg5 hgr5)
     clear hjw hjt
     have hspl : j < (splice cur.toList (j + 1) ((encs Value.string l0).drop j)).length := by
      have h9 : cur.size = cap := by simpa using hcl
      unfold splice
      simp [encs]; omega
     obtain ⟨⟨v5, hv5⟩, hf5⟩ := splice_cell hg5.out hspl
     have HG5 := aM hg5.out
     have HGR5 := aM (show w4.grownBy w5 (some g) from ⟨hgr5.os, hgr5.tape, hgr5.output, hgr5.size, hgr5.block⟩)
     clear hg5 hgr5
     go_wp2
     go_ret
     have hrow := insert_row (x := .string a1) hbg (show (encs Value.string l0).length = l0.length by simp [encs]) (show j ≤ l0.length by omega) hnc hcm HCS.out HTK.out HG5.out
     have e1 : encs Value.string (l0.take j ++ a1 :: l0.drop j) = (encs Value.string l0).take j ++ .string a1 :: (encs Value.string l0).drop j := by simp [encs]
     have e2 : (l0.take j ++ a1 :: l0.drop j).length = l0.length + 1 := by simp; omega
     refine ⟨_, rfl, ?_, ?_, ?_⟩
     ·rw [HF.out, HIN.out]
      refine Kd.R_of_own ?_ (fun k hk => ?_)
      ·rw [e1, e2]
       first | exact hrow | (rw [hc1] at hrow; exact hrow)
      ·have hk' : g = k := by simpa [Value.ownBlock] using hk
       rw [← hk']; exact HOKg.out
     ·exact (HB4.out.grown HGR5.out (by have := HB4.out.size; omega) (fun k e => by cases e; exact hbg)).setCell (p := ⟨g, j, none⟩) hbg _
     ·refine ⟨by have h1 := HG4.out.size; have h2 := HGR5.out.size; simp; omega, fun i hi hni => ?_⟩
      have hne : i ≠ g := fun e => by
       rcases HOKg.out with h | h
       ·exact hni (e ▸ h)
       ·omega
      have h1 := HG4.out.block i (by omega) (fun e => hni (HP0.out i e.symm))
      have h2 := HGR5.out.block i (by have := HG4.out.size; omega) (fun e => hne (by injection e))
      have h3 := Below.heap_setCell w5 ⟨g, j, none⟩ (.string a1) i hne
      exact h3.trans (h2.trans h1)
  ·have HP : Aside0 (posS l0 a1 = j) := ⟨takeWhile_atS (lessB · a1) l0 j (fun q hq hlt2 => HQ.out q hq hlt2) hj (fun h => absurd h hjl)⟩
   have HIN : Aside0 (insS l0 a1 = l0.take j ++ a1 :: l0.drop j) := ⟨by unfold insS; rw [HP.out, List.getElem?_eq_none (by omega)]; simp⟩
   have hjn : l0.length ≤ j := by omega
   go_wp2_with ((with_reducible refine gate_builtin (b := .append) (xs := #[.tmp 33, .tmp 34]) rfl ?_); at_builtin; refine Kd.R_append Kd.string (w0 := w0) w0.heap.size rfl (.tmp 33) (.tmp 34) 34 9 (.string ⟨#[]⟩) 16 rfl Tryd.underlying34 info9 rfl (by decide) (by omega) (.slice A1 l0.length c1) l0 ⟨#[]⟩ [.string ⟨#[]⟩] (fun k_ => (P0_ k_ ∨ w.heap.size ≤ k_)) (fun _ => False) rfl rfl ?aP (fun _ hk => hk.elim) ?aF ?aO ?aB ?aS ?aL ?_; (case aP => exact rfl); (case aB => exact HB.out); (case aF => exact (fun _ hk => .inr hk)); (case aO => exact HO.out); (case aS => exact hbs); (case aL => omega); intro v' w4 ho hb4 hg hat; have HO4 := aM ho; have HB4 := aM hb4; have HG4 := aM hg; have hown' : w4.ownsRow w0.heap.size 9 1 v' (l0.length + 1) (encs Value.string l0 ++ [.string ⟨#[]⟩]) := (by simpa [encs] using Kd.own_of_R ho); have HOKG := aM ho.1; clear ho hb4 hg hat; rcases hown'.2 with ⟨_, h0⟩ | ⟨g, cap, cur, rfl, hbg, hhg, hnc, hcm, hcs, htk⟩; (exact absurd h0 (Nat.succ_ne_zero _)); have HHG := aM hhg; have HTK := aM htk; have HCS := aM hcs; clear hhg htk hcs hown')
   have hcl : cur.toList.length = cap := by simpa using HCS.out
   have HCP := aM (copy_cells (j := j) (n := l0.length) (by simp [encs]) (show j ≤ l0.length by omega) HTK.out HHG.out)
   have HL := aM (show ((encs Value.string l0).drop j).length = Nat.min (l0.length + 1 - j) (l0.length - j) from (show ((encs Value.string l0).drop j).length = l0.length - j by simp [encs]).trans (Nat.min_eq_right (by omega)).symm)
   have HFT := aM (show j + 1 + ((encs Value.string l0).drop j).length ≤ cur.toList.length by rw [hcl]; simp [encs]; omega)
   have H1C := aM (show ∀ v ∈ (encs Value.string l0).drop j, v.oneCell' = true from fun v hv => by
    have := List.mem_of_mem_drop hv
    simp only [encs, List.mem_map] at this
    obtain ⟨z, _, rfl⟩ := this
    rfl)
   have HS2 := aM (show (Tryd.prog.info? 9).map (·.size) = some 1 by kernel_rfl)
   have HHT := aM (show w4.heap[g]? = some (.cells cur.toList.toArray 9 (0, 0)) by simpa using HHG.out)
   have HOKg := aM (show P0_ g ∨ w.heap.size ≤ g from HOKG.out g rfl)
   have HE0 := aM (show l0.length ≤ j → ((encs Value.string l0).drop j).length = 0 from fun h => by simp [encs]; omega)
   have hj1 : (0 : Int) ≤ (j : Int) + 1 := by omega
   have hj2 : (j : Int) + 1 ≤ (l0.length : Int) + 1 := by omega
   have hj3 : (j : Int) ≤ (l0.length : Int) + 1 := by omega
   have hc2 : ¬ cap = j := by omega
   have hjt : ((j : Int) + 1).toNat = j + 1 := by omega
   by_cases hc1 : cap = j + 1
   ·have hjw : IntKind.i64.wrap ((j : Int) + 1) = (j : Int) + 1 := IntWalk.i64_in _ (by omega)
    go_region_law ((with_reducible refine step_copy_g rfl (.tmp 39) (.tmp 42) 34 34 rfl 9 Tryd.underlying34 HS2.out (some ⟨g, 0, none⟩) (some ⟨g, j, none⟩) (l0.length - j) (cap - (j + 1)) (l0.length + 1 - j) (cap - j) ?g4 ?g5 g (j + 1) cur.toList 9 ?g1 ((encs Value.string l0).drop j) HL.out ?g2 HFT.out H1C.out ?_); (case g4 => go_simp); (case g5 => go_simp); (case g1 => exact HHT.out); (case g2 => exact (fun h_ => absurd h_ (by have h7 := HE0.out (by omega); rw [h7]; omega))); intro w5 hg5 hgr5)
    clear hjw hjt
    have hspl : j < (splice cur.toList (j + 1) ((encs Value.string l0).drop j)).length := by
     have h9 : cur.size = cap := by simpa using hcl
     unfold splice
     simp [encs]; omega
    obtain ⟨⟨v5, hv5⟩, hf5⟩ := splice_cell hg5.out hspl
    have HG5 := aM hg5.out
    have HGR5 := aM (show w4.grownBy w5 (some g) from ⟨hgr5.os, hgr5.tape, hgr5.output, hgr5.size, hgr5.block⟩)
    clear hg5 hgr5
    go_wp2
    go_ret
    have hrow := insert_row (x := .string a1) hbg (show (encs Value.string l0).length = l0.length by simp [encs]) (show j ≤ l0.length by omega) hnc hcm HCS.out HTK.out HG5.out
    have e1 : encs Value.string (l0.take j ++ a1 :: l0.drop j) = (encs Value.string l0).take j ++ .string a1 :: (encs Value.string l0).drop j := by simp [encs]
    have e2 : (l0.take j ++ a1 :: l0.drop j).length = l0.length + 1 := by simp; omega
    refine ⟨_, rfl, ?_, ?_, ?_⟩
    ·rw [HF.out, HIN.out]
     refine Kd.R_of_own ?_ (fun k hk => ?_)
     ·rw [e1, e2]
      first | exact hrow | (rw [hc1] at hrow; exact hrow)
     ·have hk' : g = k := by simpa [Value.ownBlock] using hk
      rw [← hk']; exact HOKg.out
    ·exact (HB4.out.grown HGR5.out (by have := HB4.out.size; omega) (fun k e => by cases e; exact hbg)).setCell (p := ⟨g, j, none⟩) hbg _
    ·refine ⟨by have h1 := HG4.out.size; have h2 := HGR5.out.size; simp; omega, fun i hi hni => ?_⟩
     have hne : i ≠ g := fun e => by
      rcases HOKg.out with h | h
      ·exact hni (e ▸ h)
      ·omega
     have h1 := HG4.out.block i (by omega) (fun e => hni (HP0.out i e.symm))
     have h2 := HGR5.out.block i (by have := HG4.out.size; omega) (fun e => hne (by injection e))
     have h3 := Below.heap_setCell w5 ⟨g, j, none⟩ (.string a1) i hne
     exact h3.trans (h2.trans h1)
   ·have hjw : IntKind.i64.wrap ((j : Int) + 1) = (j : Int) + 1 := IntWalk.i64_in _ (by omega)
    go_region_law ((with_reducible refine step_copy_g rfl (.tmp 39) (.tmp 42) 34 34 rfl 9 Tryd.underlying34 HS2.out (some ⟨g, j + 1, none⟩) (some ⟨g, j, none⟩) (l0.length - j) (cap - (j + 1)) (l0.length + 1 - j) (cap - j) ?g4 ?g5 g (j + 1) cur.toList 9 ?g1 ((encs Value.string l0).drop j) HL.out ?g2 HFT.out H1C.out ?_); (case g4 => go_simp); (case g5 => go_simp); (case g1 => exact HHT.out); (case g2 => exact (fun _ => ⟨rfl, ⟨g, j, none⟩, rfl, HCP.out⟩)); intro w5 hg5 hgr5)
    clear hjw hjt
    have hspl : j < (splice cur.toList (j + 1) ((encs Value.string l0).drop j)).length := by
     have h9 : cur.size = cap := by simpa using hcl
     unfold splice
     simp [encs]; omega
    obtain ⟨⟨v5, hv5⟩, hf5⟩ := splice_cell hg5.out hspl
    have HG5 := aM hg5.out
    have HGR5 := aM (show w4.grownBy w5 (some g) from ⟨hgr5.os, hgr5.tape, hgr5.output, hgr5.size, hgr5.block⟩)
    clear hg5 hgr5
    go_wp2
    go_ret
    have hrow := insert_row (x := .string a1) hbg (show (encs Value.string l0).length = l0.length by simp [encs]) (show j ≤ l0.length by omega) hnc hcm HCS.out HTK.out HG5.out
    have e1 : encs Value.string (l0.take j ++ a1 :: l0.drop j) = (encs Value.string l0).take j ++ .string a1 :: (encs Value.string l0).drop j := by simp [encs]
    have e2 : (l0.take j ++ a1 :: l0.drop j).length = l0.length + 1 := by simp; omega
    refine ⟨_, rfl, ?_, ?_, ?_⟩
    ·rw [HF.out, HIN.out]
     refine Kd.R_of_own ?_ (fun k hk => ?_)
     ·rw [e1, e2]
      first | exact hrow | (rw [hc1] at hrow; exact hrow)
     ·have hk' : g = k := by simpa [Value.ownBlock] using hk
      rw [← hk']; exact HOKg.out
    ·exact (HB4.out.grown HGR5.out (by have := HB4.out.size; omega) (fun k e => by cases e; exact hbg)).setCell (p := ⟨g, j, none⟩) hbg _
    ·refine ⟨by have h1 := HG4.out.size; have h2 := HGR5.out.size; simp; omega, fun i hi hni => ?_⟩
     have hne : i ≠ g := fun e => by
      rcases HOKg.out with h | h
      ·exact hni (e ▸ h)
      ·omega
     have h1 := HG4.out.block i (by omega) (fun e => hni (HP0.out i e.symm))
     have h2 := HGR5.out.block i (by have := HG4.out.size; omega) (fun e => hne (by injection e))
     have h3 := Below.heap_setCell w5 ⟨g, j, none⟩ (.string a1) i hne
     exact h3.trans (h2.trans h1)


end



/-! ### e_Activities: function 27 -/
mutual
def e_Activities.l0 : Nat → List ByteArray → List (List ByteArray) → Int → Int → Option (List ByteArray)
 | 0, _, _, _, _ => none
 | k + 1, x3, x8, x9, x10 => if x10 < x9 then (if 0 ≤ x10 then (if x10 < (x8.length : Int) then (e_Activities.l1 k x3 x8 x9 x10 (rd_L1 x8 x10) ((rd_L1 x8 x10).length : Int) 0) else (none)) else (none)) else (some x3)
def e_Activities.l1 : Nat → List ByteArray → List (List ByteArray) → Int → Int → List ByteArray → Int → Int → Option (List ByteArray)
 | 0, _, _, _, _, _, _, _ => none
 | k + 1, x3, x8, x9, x10, x14, x15, x16 => if x16 < x15 then (if 0 ≤ x16 then (if x16 < (x14.length : Int) then ((e_insert.f x3 (rdOf ByteArray.empty x14 x16)).bind fun t137 => (e_Activities.l1 k t137 x8 x9 x10 x14 x15 (wrap64 (x16 + 1)))) else (none)) else (none)) else (e_Activities.l0 k x3 x8 x9 (wrap64 (x10 + 1)))
end
def e_Activities.f (k : Nat) (l0 : List (List ByteArray)) : Option (List ByteArray) := e_Activities.l0 k ([] : List ByteArray) l0 (l0.length : Int) 0
theorem e_Activities.mono_l : ∀ k, (∀ y0 y1 y2 y3, LeO (e_Activities.l0 k y0 y1 y2 y3) (e_Activities.l0 (k + 1) y0 y1 y2 y3)) ∧ (∀ y0 y1 y2 y3 y4 y5 y6, LeO (e_Activities.l1 k y0 y1 y2 y3 y4 y5 y6) (e_Activities.l1 (k + 1) y0 y1 y2 y3 y4 y5 y6))
 | 0 => ⟨fun _ _ _ _ r h => by simp [e_Activities.l0] at h, fun _ _ _ _ _ _ _ r h => by simp [e_Activities.l1] at h⟩
 | k + 1 => by
  obtain ⟨ih0, ih1⟩ := e_Activities.mono_l k
  refine ⟨?_, ?_⟩ <;> intros <;> (first | unfold e_Activities.l0 | unfold e_Activities.l1)
  all_goals repeat' first
   | (with_reducible first | apply ih0 | apply ih1 | exact LeO.refl _ | exact LeO.none _ | refine LeO.ite ?_ ?_ | refine LeO.bind ?_ (fun _ => ?_))
theorem e_Activities.mono : ∀ a0 k, LeO (e_Activities.f k a0) (e_Activities.f (k + 1) a0) := by
 intro a0 k
 obtain ⟨ih0, ih1⟩ := e_Activities.mono_l k
 unfold e_Activities.f
 repeat' first
   | (with_reducible first | apply ih0 | apply ih1 | exact LeO.refl _ | exact LeO.none _ | refine LeO.ite ?_ ?_ | refine LeO.bind ?_ (fun _ => ?_))
set_option maxHeartbeats 8000000 in
set_option maxRecDepth 100000 in
theorem e_Activities.calls (k : Nat) (A0 : Option Addr) (c0 : Nat) (l0 : List (List ByteArray)) (r : List ByteArray) (w : World) (hr0 : Kd.C (Kd.slice 9 Kd.string) w A0 l0.length l0) (hc0 : l0.length ≤ c0) (h : e_Activities.f k l0 = some r) :
  Calls Tryd.prog 27 #[.slice A0 l0.length c0] w fun e w' => ∃ v0_ : Value, e = .returned (v0_) ∧ Kd.R Kd.string 9 w' w.heap.size (fun _ => True) v0_ r ∧ Below w.heap.size w w' := by
 have HR0 := aM hr0; have HC0 := aM hc0; clear hr0 hc0; have HB := aM (Below.refl w.heap.size w); have H : (e_Activities.l0 k ([] : List ByteArray) l0 (l0.length : Int) 0) = some r := h; clear h
 have H' := aM H
 clear H
 go_enter Tryd.func27, Tryd.ntmps27
 go_wp2
 go_loopg [3, 10] k (fun kq v3 v10 w' => ∃ (x3_1 : List ByteArray) (x10_1 : Int), v10 = .int .i64 x10_1 ∧ Aside0 (e_Activities.l0 kq x3_1 l0 (l0.length : Int) x10_1 = some r) ∧ Aside0 (kq ≤ k) ∧ Aside0 (Kd.R Kd.string 9 w' w.heap.size (fun _ => True) v3 x3_1) ∧ Aside0 (Below w.heap.size w w'))
 case atStart => exact ⟨(([] : List ByteArray)), (0), eT, H', ⟨Nat.le_refl _⟩, ⟨nT⟩, ⟨bB HB.out⟩⟩
 clear H'; obtain ⟨x3_1, x10_1, rfl, HA, HK1, HO_3, HB⟩ := hrel
 cases gk with
 | zero => exact absurd HA.out (by simp [e_Activities.l0])
 | succ k1 =>
  have H := HA.out; clear HA
  simp only [e_Activities.l0] at H
  by_cases c2 : x10_1 < (l0.length : Int)
  rotate_left
  ·
   rw [if_neg c2] at H
   have c2b0 := decide_eq_false c2; clear c2
   obtain rfl := Option.some.inj H
   go_wp2
   go_ret
   exact ⟨_, rT, oR HO_3.out, bB HB.out⟩


  rw [if_pos c2] at H; have c2b0 := decide_eq_true c2; clear c2
  obtain ⟨c3, H⟩ := iP H; have c3b0 := decide_eq_true c3; clear c3
  obtain ⟨c4, H⟩ := iP H; have c4b0 := decide_eq_true c4; clear c4
  have H' := aM H
  clear H; obtain ⟨p135, q135, ad135, A135_0, c135_0, e135, hx135_0, hl135_0, hi135_0⟩ := aT (at_L1 HR0.out x10_1); cases e135
  try replace hx135_0 := kX HB.out hx135_0
  have HR135_0 := aM hi135_0; have HC135_0 := aM hl135_0; clear hi135_0 hl135_0
  go_wp2
  go_loopg [3, 16] k1 (fun kq v3 v16 w' => ∃ (x3_2 : List ByteArray) (x16_2 : Int), v16 = .int .i64 x16_2 ∧ Aside0 (e_Activities.l1 kq x3_2 l0 (l0.length : Int) x10_1 (rd_L1 l0 x10_1) ((rd_L1 l0 x10_1).length : Int) x16_2 = some r) ∧ Aside0 (kq ≤ k1) ∧ Aside0 (Kd.R Kd.string 9 w' w.heap.size (fun _ => True) v3 x3_2) ∧ Aside0 (Below w.heap.size w w'))
  case atStart => exact ⟨(x3_1), (0), eT, H', ⟨Nat.le_refl _⟩, ⟨oR HO_3.out⟩, ⟨bB HB.out⟩⟩
  clear H'
  try clear hx1
  try clear hx135_0
  obtain ⟨x3_2, x16_2, rfl, HA, HK2, HO_3, HB⟩ := hrel
  cases gk with
  | zero => exact absurd HA.out (by simp [e_Activities.l1])
  | succ k2 =>
   have H := HA.out; clear HA
   simp only [e_Activities.l1] at H
   by_cases c5 : x16_2 < ((rd_L1 l0 x10_1).length : Int)
   rotate_left
   ·
    rw [if_neg c5] at H
    have c5b0 := decide_eq_false c5; clear c5
    have H' := aM H
    clear H
    go_wp2
    go_roundg k2
    case measure => have := HK1.out; have := HK2.out; omega
    case rel => exact ⟨(x3_2), (wrap64 (x10_1 + 1)), eT, H', ⟨by have := HK1.out; have := HK2.out; omega⟩, ⟨oR HO_3.out⟩, ⟨bB HB.out⟩⟩
   rw [if_pos c5] at H; have c5b0 := decide_eq_true c5; clear c5
   obtain ⟨c6, H⟩ := iP H; have c6b0 := decide_eq_true c6; clear c6
   obtain ⟨c7, H⟩ := iP H; have c7b0 := decide_eq_true c7; clear c7; obtain ⟨t137, A8, H⟩ := iB H; (try dsimp only at H)
   have H' := aM H
   clear H; obtain ⟨p136, q136, ad136, e136, hx136_0⟩ := aT (Kd.at_string HR135_0.out x16_2); cases e136
   try replace hx136_0 := kX HB.out hx136_0; obtain ⟨Ao9, co9, eo9⟩ := Kd.R_slice HO_3.out; subst eo9
   go_wp2_with (first | ((with_reducible refine gate_callee (f := 48) rfl ?_); refine gM (some 22) Tryd.func48 #[.slice Ao9 x3_2.length co9, .string (rdOf ByteArray.empty (rd_L1 l0 x10_1) x16_2)] ?_; (with_reducible refine (e_insert.calls (fun k_ => some k_ = (.slice Ao9 x3_2.length co9 : Value).ownBlock) (.slice Ao9 x3_2.length co9) x3_2 (rdOf ByteArray.empty (rd_L1 l0 x10_1) x16_2) t137 w _ ?side1 ?side2 A8.out).mono ?_); (case side1 => repeat (first | (with_reducible first | exact HB.out | apply below_alloc | apply pw_below_drewN | apply below_drew1) | exact HB.out)); (case side2 => exact Kd.R_tight rfl HO_3.out); rintro e w10 ⟨v138, rfl, ho0, hb, hkp⟩; refine ⟨_, rfl, ?_⟩; have HO139 := aM (Kd.R_mono (ok' := fun k_ => True) ho0 (fun k_ hk_ => trivial)); replace HB := aM (hb); clear HO_3; clear hb hkp ho0))
   go_roundg k2
   case measure => have := HK1.out; have := HK2.out; omega
   case rel => exact ⟨(t137), (wrap64 (x16_2 + 1)), eT, H', ⟨by have := HK1.out; have := HK2.out; omega⟩, ⟨oR HO139.out⟩, ⟨bB HB.out⟩⟩


section
-- STUBBED 59
/-! ### e_Name: function 59: by hand -/
open Go.Proofs.YtejchnmhlcbfcaaDoor.Names

def e_Name.f (a0 : ByteArray) : Option (Bool) := some (nameB a0)

set_option maxHeartbeats 4000000 in
set_option maxRecDepth 100000 in
theorem e_Name.calls (a0 : ByteArray) (r : Bool) (w : World) (h : e_Name.f a0 = some r) :
    Calls Tryd.prog 59 #[.string a0] w fun e w' => e = .returned (.bool r) ∧ Below w.heap.size w w' := by
  have HR := aM (show nameB a0 = r from Option.some.inj h)
  clear h
  by_cases h1 : 1 ≤ a0.size
  · by_cases h2 : a0.size ≤ 16
    · have g1 : ¬ (a0.size : Int) < 1 := by omega
      have g2 : ¬ (16 : Int) < (a0.size : Int) := by omega
      go_enter Tryd.func59, Tryd.ntmps59
      go_wp2
      go_loopw [3] (fun _ w' => ∃ pos : Nat, w' = w.iter a0 pos ∧ pos ≤ a0.size ∧ Aside0 (∀ i, i < pos → okB i (byteAt a0 i) = true)) (fun _ w' => a0.size - w'.iterPos w.heap.size)
      case atStart => exact ⟨0, rfl, Nat.zero_le _, ⟨fun i h => absurd h (Nat.not_lt_zero _)⟩⟩
      case round =>
        obtain ⟨pos, rfl, hpos, HA⟩ := hrel
        by_cases hp : pos < a0.size
        · have hnx : ∀ ty, (Instr.next (.pointer (some ⟨w.heap.size, 0, none⟩)) true ty).run Tryd.prog (w.iter a0 pos) = _ := fun ty => run_next_any w a0 pos ty hp
          obtain ⟨c, hc⟩ : ∃ c, c = byteAt a0 pos := ⟨_, rfl⟩
          by_cases hlo : c < 128
          · have hd := rune_low a0 pos hp (by omega)
            rw [← hc] at hd
            rw [hd] at hnx
            have HC := aM hc
            clear hd hc
            go_wp2
            all_goals first
              | (go_roundw
                 case rel =>
                   refine ⟨pos + 1, rfl, by omega, ⟨fun i hi => ?_⟩⟩
                   by_cases e : i = pos
                   · rw [e, ← HC.out]
                     exact okB_of (by first | omega | (have h46 := is46 ‹_›; omega))
                   · exact HA.out i (by omega)
                 case measure => simp; omega)
              | (have hr : r = false := HR.out.symm.trans (nameB_false hp (by rw [← HC.out]; exact okB_not (by first | omega | (have h46 := not46 ‹_›; omega))))
                 go_ret
                 exact ⟨by rw [hr]; rfl, below_iter _ _ _⟩)
          · have hd := rune_high a0 pos hp (by omega)
            have hr : r = false := HR.out.symm.trans (nameB_false hp (by rw [← hc]; exact okB_high hlo))
            obtain ⟨u, hu⟩ : ∃ u, u = (Utf8.decode a0 pos).1 := ⟨_, rfl⟩
            rw [← hu] at hd hnx
            have HR2 := aM hr
            have k1 : (97 : Int) ≤ (u : Int) := by omega
            have k2 : ¬ (u : Int) ≤ 122 := by omega
            have k3 : ((u : Int) == 95) = false := by rw [beq_eq_false_iff_ne]; omega
            have k4 : (48 : Int) ≤ (u : Int) := by omega
            have k5 : ¬ (u : Int) ≤ 57 := by omega
            have k6 : ((u : Int) == 46) = false := by rw [beq_eq_false_iff_ne]; omega
            clear hr hu hc hlo
            go_wp2
            all_goals
              go_ret
              exact ⟨by rw [HR2.out]; rfl, below_iter _ _ _⟩
        · have hnx : ∀ ty, (Instr.next (.pointer (some ⟨w.heap.size, 0, none⟩)) true ty).run Tryd.prog (w.iter a0 pos) = _ := fun ty => run_next_end w a0 pos ty hp
          obtain rfl : pos = a0.size := by omega
          go_wp2
          go_ret
          have hr : r = true := HR.out.symm.trans (nameB_true h1 h2 HA.out)
          exact ⟨by rw [hr]; rfl, below_iter _ _ _⟩
    · have HF := aM (show nameB a0 = false by unfold nameB; simp [h2])
      have g1 : ¬ (a0.size : Int) < 1 := by omega
      have g2 : (16 : Int) < (a0.size : Int) := by omega
      go_enter Tryd.func59, Tryd.ntmps59
      go_wp2
      go_ret
      have hr : r = false := HR.out.symm.trans HF.out
      exact ⟨by rw [hr]; rfl, Below.refl _ _⟩
  · have HF := aM (show nameB a0 = false by unfold nameB; simp [h1])
    have g1 : (a0.size : Int) < 1 := by omega
    go_enter Tryd.func59, Tryd.ntmps59
    go_wp2
    go_ret
    have hr : r = false := HR.out.symm.trans HF.out
    exact ⟨by rw [hr]; rfl, Below.refl _ _⟩


end



/-! ### e_Check: function 42 -/
mutual
def e_Check.l0 : Nat → List (List ByteArray) → Int → Int → Option (Int × Int)
 | 0, _, _, _ => none
 | k + 1, x11, x12, x13 => if x13 < x12 then (if 0 ≤ x13 then (if x13 < (x11.length : Int) then (if ((rd_L1 x11 x13).length : Int) > 64 then (some (2, x13)) else (e_Check.l1 k x13 x11 x12 x13 (rd_L1 x11 x13) ((rd_L1 x11 x13).length : Int) 0)) else (none)) else (none)) else (some (0, 0))
def e_Check.l1 : Nat → Int → List (List ByteArray) → Int → Int → List ByteArray → Int → Int → Option (Int × Int)
 | 0, _, _, _, _, _, _, _ => none
 | k + 1, x3, x11, x12, x13, x23, x24, x25 => if x25 < x24 then (if 0 ≤ x25 then (if x25 < (x23.length : Int) then ((e_Name.f (rdOf ByteArray.empty x23 x25)).bind fun t143 => (if t143 = true then (e_Check.l1 k x3 x11 x12 x13 x23 x24 (wrap64 (x25 + 1))) else (some (5, x3)))) else (none)) else (none)) else (e_Check.l0 k x11 x12 (wrap64 (x13 + 1)))
end
def e_Check.f (k : Nat) (l0 : List (List ByteArray)) : Option (Int × Int) := if (l0.length : Int) > 64 then (some (2, 0)) else (e_Check.l0 k l0 (l0.length : Int) 0)
theorem e_Check.mono_l : ∀ k, (∀ y0 y1 y2, LeO (e_Check.l0 k y0 y1 y2) (e_Check.l0 (k + 1) y0 y1 y2)) ∧ (∀ y0 y1 y2 y3 y4 y5 y6, LeO (e_Check.l1 k y0 y1 y2 y3 y4 y5 y6) (e_Check.l1 (k + 1) y0 y1 y2 y3 y4 y5 y6))
 | 0 => ⟨fun _ _ _ r h => by simp [e_Check.l0] at h, fun _ _ _ _ _ _ _ r h => by simp [e_Check.l1] at h⟩
 | k + 1 => by
  obtain ⟨ih0, ih1⟩ := e_Check.mono_l k
  refine ⟨?_, ?_⟩ <;> intros <;> (first | unfold e_Check.l0 | unfold e_Check.l1)
  all_goals repeat' first
   | (with_reducible first | apply ih0 | apply ih1 | exact LeO.refl _ | exact LeO.none _ | refine LeO.ite ?_ ?_ | refine LeO.bind ?_ (fun _ => ?_))
theorem e_Check.mono : ∀ a0 k, LeO (e_Check.f k a0) (e_Check.f (k + 1) a0) := by
 intro a0 k
 obtain ⟨ih0, ih1⟩ := e_Check.mono_l k
 unfold e_Check.f
 repeat' first
   | (with_reducible first | apply ih0 | apply ih1 | exact LeO.refl _ | exact LeO.none _ | refine LeO.ite ?_ ?_ | refine LeO.bind ?_ (fun _ => ?_))
set_option maxHeartbeats 8000000 in
set_option maxRecDepth 100000 in
theorem e_Check.calls (k : Nat) (A0 : Option Addr) (c0 : Nat) (l0 : List (List ByteArray)) (r1 : Int) (r2 : Int) (w : World) (hr0 : Kd.C (Kd.slice 9 Kd.string) w A0 l0.length l0) (hc0 : l0.length ≤ c0) (h : e_Check.f k l0 = some (r1, r2)) :
  Calls Tryd.prog 42 #[.slice A0 l0.length c0] w fun e w' => e = .returned (.agg #[.int .i64 r1, .int .i64 r2]) ∧ Below w.heap.size w w' := by
 have hu66 := Tryd.underlying66; have hu3 := Tryd.underlying3; have hu29 := Tryd.underlying29; have HR0 := aM hr0; have HC0 := aM hc0; clear hr0 hc0; have HB := aM (Below.refl w.heap.size w); have H : (if (l0.length : Int) > 64 then (some (2, 0)) else (e_Check.l0 k l0 (l0.length : Int) 0)) = some (r1, r2) := h; clear h
 by_cases c2 : (l0.length : Int) > 64
 ·
  rw [if_pos c2] at H
  have c2b0 : decide (64 < (l0.length : Int)) = true := decide_eq_true c2; have c2b1 : decide (64 < l0.length) = true := decide_eq_true (by omega); clear c2
  simp only [Option.some.injEq, Prod.mk.injEq] at H
  obtain ⟨rfl, rfl⟩ := H
  go_enter Tryd.func42, Tryd.ntmps42
  go_wp2_with (first | ((with_reducible refine gate_dst (N := 2) rfl ?_); refine bX 2 (cs := #[.int .i64 0, .int .i64 0]) (t := 66) ?_; intro gb140 hg w3 hbox hb; have BK140 := aM (hbox); have GW140 := aM (gE hg (below_size (bB HB.out))); have GE140 := GW140; replace HB := aM (below_step (bB HB.out) hb); clear hb hbox hg; obtain ⟨hcz4_0, hcz4_1, hfz4_0, hfz4_1⟩ := cd2 BK140.out))
  refine bodyPost_ret (results_cell_row rfl _ _ gb140 66 #[.int .i64 2, .int .i64 0] (0, 0) _ rfl (bP BK140.out) Tryd.underlying66 rfl (by kernel_rfl)) rfl ?_
  exact ⟨rT, bB1 HB.out GE140.out⟩
 rw [if_neg c2] at H; have c2b0 : decide (64 < (l0.length : Int)) = false := decide_eq_false c2; have c2b1 : decide (64 < l0.length) = false := decide_eq_false (by omega); clear c2
 have H' := aM H
 clear H
 go_enter Tryd.func42, Tryd.ntmps42
 go_wp2_with (first | ((with_reducible refine gate_dst (N := 2) rfl ?_); refine bX 2 (cs := #[.int .i64 0, .int .i64 0]) (t := 66) ?_; intro gb140 hg w5 hbox hb; have BK140 := aM (hbox); have GW140 := aM (gE hg (below_size (bB HB.out))); have GE140 := GW140; replace HB := aM (below_step (bB HB.out) hb); clear hb hbox hg))
 go_loopg [13] k (fun kq v13 w' => ∃ (x13_1 : Int) (x141000_1 : Int) (x141001_1 : Int), v13 = .int .i64 x13_1 ∧ Aside0 (e_Check.l0 kq l0 (l0.length : Int) x13_1 = some (r1, r2)) ∧ Aside0 (kq ≤ k) ∧ Aside0 (w'.heap[gb140]? = some (.cells #[.int .i64 x141000_1, .int .i64 x141001_1] 66 (0, 0))) ∧ Aside0 (Below w.heap.size w w'))
 case atStart => exact ⟨(0), (0), (0), eT, H', ⟨Nat.le_refl _⟩, ⟨kB BK140.out⟩, ⟨bB1 HB.out GE140.out⟩⟩
 clear H'; obtain ⟨x13_1, x141000_1, x141001_1, rfl, HA, HK1, BK140, HB⟩ := hrel
 cases gk with
 | zero => exact absurd HA.out (by simp [e_Check.l0])
 | succ k1 =>
  have H := HA.out; clear HA
  simp only [e_Check.l0] at H
  by_cases c6 : x13_1 < (l0.length : Int)
  rotate_left
  ·
   rw [if_neg c6] at H
   have c6b0 := decide_eq_false c6; clear c6
   simp only [Option.some.injEq, Prod.mk.injEq] at H
   obtain ⟨rfl, rfl⟩ := H
   have hcz19_0 : wr.cell? ⟨gb140, 0, none⟩ = some (.int .i64 x141000_1) := (blk_cell BK140.out 0).trans rfl
   have hcz19_1 : wr.cell? ⟨gb140, 1, none⟩ = some (.int .i64 x141001_1) := (blk_cell BK140.out 1).trans rfl
   have hfz19_0 := blk_frozen BK140.out 0; have hfz19_1 := blk_frozen BK140.out 1
   go_wp2
   refine bodyPost_ret (results_cell_row rfl _ _ gb140 66 #[.int .i64 0, .int .i64 0] (0, 0) _ rfl (bP BK140.out) Tryd.underlying66 rfl (by kernel_rfl)) rfl ?_
   exact ⟨rT, bB1 HB.out GE140.out⟩


  rw [if_pos c6] at H; have c6b0 := decide_eq_true c6; clear c6
  obtain ⟨c7, H⟩ := iP H; have c7b0 := decide_eq_true c7; clear c7
  obtain ⟨c8, H⟩ := iP H; have c8b0 := decide_eq_true c8; clear c8
  by_cases c9 : ((rd_L1 l0 x13_1).length : Int) > 64
  ·
   rw [if_pos c9] at H
   have c9b0 : decide (64 < ((rd_L1 l0 x13_1).length : Int)) = true := decide_eq_true c9; have c9b1 : decide (64 < (rd_L1 l0 x13_1).length) = true := decide_eq_true (by omega); clear c9
   simp only [Option.some.injEq, Prod.mk.injEq] at H
   obtain ⟨rfl, rfl⟩ := H; obtain ⟨p141, q141, ad141, A141_0, c141_0, e141, hx141_0, hl141_0, hi141_0⟩ := aT (at_L1 HR0.out x13_1); cases e141
   try replace hx141_0 := kX HB.out hx141_0
   have HR141_0 := aM hi141_0; have HC141_0 := aM hl141_0; clear hi141_0 hl141_0
   have hcz10_0 : wr.cell? ⟨gb140, 0, none⟩ = some (.int .i64 x141000_1) := (blk_cell BK140.out 0).trans rfl
   have hcz10_1 : wr.cell? ⟨gb140, 1, none⟩ = some (.int .i64 x141001_1) := (blk_cell BK140.out 1).trans rfl
   have hfz10_0 := blk_frozen BK140.out 0; have hfz10_1 := blk_frozen BK140.out 1
   go_wp2
   refine bodyPost_ret (results_cell_row rfl _ _ gb140 66 #[.int .i64 2, .int .i64 x13_1] (0, 0) _ rfl (bP BK140.out) Tryd.underlying66 rfl (by kernel_rfl)) rfl ?_
   exact ⟨rT, bB1 HB.out GE140.out⟩
  rw [if_neg c9] at H; have c9b0 : decide (64 < ((rd_L1 l0 x13_1).length : Int)) = false := decide_eq_false c9; have c9b1 : decide (64 < (rd_L1 l0 x13_1).length) = false := decide_eq_false (by omega); clear c9
  have H' := aM H
  clear H; obtain ⟨p141, q141, ad141, A141_0, c141_0, e141, hx141_0, hl141_0, hi141_0⟩ := aT (at_L1 HR0.out x13_1); cases e141
  try replace hx141_0 := kX HB.out hx141_0
  have HR141_0 := aM hi141_0; have HC141_0 := aM hl141_0; clear hi141_0 hl141_0
  go_wp2
  go_loopg [25] k1 (fun kq v25 w' => ∃ (x25_2 : Int) (x141000_2 : Int) (x141001_2 : Int), v25 = .int .i64 x25_2 ∧ Aside0 (e_Check.l1 kq x13_1 l0 (l0.length : Int) x13_1 (rd_L1 l0 x13_1) ((rd_L1 l0 x13_1).length : Int) x25_2 = some (r1, r2)) ∧ Aside0 (kq ≤ k1) ∧ Aside0 (w'.heap[gb140]? = some (.cells #[.int .i64 x141000_2, .int .i64 x141001_2] 66 (0, 0))) ∧ Aside0 (Below w.heap.size w w'))
  case atStart => exact ⟨(0), (x141000_1), (x141001_1), eT, H', ⟨Nat.le_refl _⟩, ⟨kB BK140.out⟩, ⟨bB1 HB.out GE140.out⟩⟩
  clear H'
  try clear hx1
  try clear hx141_0
  obtain ⟨x25_2, x141000_2, x141001_2, rfl, HA, HK2, BK140, HB⟩ := hrel
  cases gk with
  | zero => exact absurd HA.out (by simp [e_Check.l1])
  | succ k2 =>
   have H := HA.out; clear HA
   simp only [e_Check.l1] at H
   by_cases c11 : x25_2 < ((rd_L1 l0 x13_1).length : Int)
   rotate_left
   ·
    rw [if_neg c11] at H
    have c11b0 := decide_eq_false c11; clear c11
    have H' := aM H
    clear H
    go_wp2
    go_roundg k2
    case measure => have := HK1.out; have := HK2.out; omega
    case rel => exact ⟨(wrap64 (x13_1 + 1)), (x141000_2), (x141001_2), eT, H', ⟨by have := HK1.out; have := HK2.out; omega⟩, ⟨kB BK140.out⟩, ⟨bB1 HB.out GE140.out⟩⟩
   rw [if_pos c11] at H; have c11b0 := decide_eq_true c11; clear c11
   obtain ⟨c12, H⟩ := iP H; have c12b0 := decide_eq_true c12; clear c12
   obtain ⟨c13, H⟩ := iP H; have c13b0 := decide_eq_true c13; clear c13; obtain ⟨t143, A14, H⟩ := iB H; (try dsimp only at H)
   by_cases c15 : t143 = true
   ·
    subst c15
    have H1 : (e_Check.l1 k2 x13_1 l0 (l0.length : Int) x13_1 (rd_L1 l0 x13_1) ((rd_L1 l0 x13_1).length : Int) (wrap64 (x25_2 + 1))) = some (r1, r2) := by rw [if_pos rfl] at H; exact H
    clear H; have H := H1; clear H1
    have H' := aM H
    clear H; obtain ⟨p142, q142, ad142, e142, hx142_0⟩ := aT (Kd.at_string HR141_0.out x25_2); cases e142
    try replace hx142_0 := kX HB.out hx142_0
    go_wp2_with (first | ((with_reducible refine gate_callee (f := 59) rfl ?_); refine gM (some 30) Tryd.func59 #[.string (rdOf ByteArray.empty (rd_L1 l0 x13_1) x25_2)] ?_; (with_reducible refine (e_Name.calls (rdOf ByteArray.empty (rd_L1 l0 x13_1) x25_2) true _ A14.out).mono ?_); rintro e w16 ⟨rfl, hb⟩; refine ⟨_, rfl, ?_⟩; replace BK140 := aM (kW BK140.out hb); replace HB := aM (below_step (bB1 HB.out GE140.out) hb); clear hb))
    go_roundg k2
    case measure => have := HK1.out; have := HK2.out; omega
    case rel => exact ⟨(wrap64 (x25_2 + 1)), (x141000_2), (x141001_2), eT, H', ⟨by have := HK1.out; have := HK2.out; omega⟩, ⟨kB BK140.out⟩, ⟨bB1 HB.out GE140.out⟩⟩
   replace c15 := Bool.eq_false_iff.mpr c15; subst c15
   have H1 : (some (5, x13_1)) = some (r1, r2) := by rw [if_neg (show ¬ (false = true) by decide)] at H; exact H
   clear H; have H := H1; clear H1
   simp only [Option.some.injEq, Prod.mk.injEq] at H
   obtain ⟨rfl, rfl⟩ := H; obtain ⟨p142, q142, ad142, e142, hx142_0⟩ := aT (Kd.at_string HR141_0.out x25_2); cases e142
   try replace hx142_0 := kX HB.out hx142_0
   go_wp2_with (first | ((with_reducible refine gate_callee (f := 59) rfl ?_); refine gM (some 30) Tryd.func59 #[.string (rdOf ByteArray.empty (rd_L1 l0 x13_1) x25_2)] ?_; (with_reducible refine (e_Name.calls (rdOf ByteArray.empty (rd_L1 l0 x13_1) x25_2) false _ A14.out).mono ?_); rintro e w17 ⟨rfl, hb⟩; refine ⟨_, rfl, ?_⟩; replace BK140 := aM (kW BK140.out hb); replace HB := aM (below_step (bB1 HB.out GE140.out) hb); clear hb; obtain ⟨hcz18_0, hcz18_1, hfz18_0, hfz18_1⟩ := cd2 BK140.out))
   refine bodyPost_ret (results_cell_row rfl _ _ gb140 66 #[.int .i64 5, .int .i64 x13_1] (0, 0) _ rfl (bP BK140.out) Tryd.underlying66 rfl (by kernel_rfl)) rfl ?_
   exact ⟨rT, bB1 HB.out GE140.out⟩
/-! ### e_Follows: function 60 -/
mutual
def e_Follows.l0 : Nat → ByteArray → ByteArray → Int → List (List ByteArray) → Int → Int → Option (Int)
 | 0, _, _, _, _, _, _ => none
 | k + 1, x1, x2, x7, x11, x12, x13 => if x13 < x12 then (if 0 ≤ x13 then (if x13 < (x11.length : Int) then (e_Follows.l1 k x1 x2 x7 (rd_L1 x11 x13) 1 x11 x12 x13) else (none)) else (none)) else (some x7)
def e_Follows.l1 : Nat → ByteArray → ByteArray → Int → List ByteArray → Int → List (List ByteArray) → Int → Int → Option (Int)
 | 0, _, _, _, _, _, _, _, _ => none
 | k + 1, x1, x2, x7, x9, x10, x11, x12, x13 => if x10 < (x9.length : Int) then (if 0 ≤ (wrap64 (x10 - 1)) then (if (wrap64 (x10 - 1)) < (x9.length : Int) then (if (rdOf ByteArray.empty x9 (wrap64 (x10 - 1))).toList = x1.toList then (if 0 ≤ x10 then (if (rdOf ByteArray.empty x9 x10).toList = x2.toList then (e_Follows.l1 k x1 x2 (wrap64 (x7 + 1)) x9 (wrap64 (x10 + 1)) x11 x12 x13) else (e_Follows.l1 k x1 x2 x7 x9 (wrap64 (x10 + 1)) x11 x12 x13)) else (none)) else (e_Follows.l1 k x1 x2 x7 x9 (wrap64 (x10 + 1)) x11 x12 x13)) else (none)) else (none)) else (e_Follows.l0 k x1 x2 x7 x11 x12 (wrap64 (x13 + 1)))
end
def e_Follows.f (k : Nat) (l0 : List (List ByteArray)) (a1 : ByteArray) (a2 : ByteArray) : Option (Int) := e_Follows.l0 k a1 a2 0 l0 (l0.length : Int) 0
theorem e_Follows.mono_l : ∀ k, (∀ y0 y1 y2 y3 y4 y5, LeO (e_Follows.l0 k y0 y1 y2 y3 y4 y5) (e_Follows.l0 (k + 1) y0 y1 y2 y3 y4 y5)) ∧ (∀ y0 y1 y2 y3 y4 y5 y6 y7, LeO (e_Follows.l1 k y0 y1 y2 y3 y4 y5 y6 y7) (e_Follows.l1 (k + 1) y0 y1 y2 y3 y4 y5 y6 y7))
 | 0 => ⟨fun _ _ _ _ _ _ r h => by simp [e_Follows.l0] at h, fun _ _ _ _ _ _ _ _ r h => by simp [e_Follows.l1] at h⟩
 | k + 1 => by
  obtain ⟨ih0, ih1⟩ := e_Follows.mono_l k
  refine ⟨?_, ?_⟩ <;> intros <;> (first | unfold e_Follows.l0 | unfold e_Follows.l1)
  all_goals repeat' first
   | (with_reducible first | apply ih0 | apply ih1 | exact LeO.refl _ | exact LeO.none _ | refine LeO.ite ?_ ?_ | refine LeO.bind ?_ (fun _ => ?_))
theorem e_Follows.mono : ∀ a0 a1 a2 k, LeO (e_Follows.f k a0 a1 a2) (e_Follows.f (k + 1) a0 a1 a2) := by
 intro a0 a1 a2 k
 obtain ⟨ih0, ih1⟩ := e_Follows.mono_l k
 unfold e_Follows.f
 repeat' first
   | (with_reducible first | apply ih0 | apply ih1 | exact LeO.refl _ | exact LeO.none _ | refine LeO.ite ?_ ?_ | refine LeO.bind ?_ (fun _ => ?_))
set_option maxHeartbeats 8000000 in
set_option maxRecDepth 100000 in
theorem e_Follows.calls (k : Nat) (A0 : Option Addr) (c0 : Nat) (l0 : List (List ByteArray)) (a1 : ByteArray) (a2 : ByteArray) (r : Int) (w : World) (hr0 : Kd.C (Kd.slice 9 Kd.string) w A0 l0.length l0) (hc0 : l0.length ≤ c0) (h : e_Follows.f k l0 a1 a2 = some r) :
  Calls Tryd.prog 60 #[.slice A0 l0.length c0, .string a1, .string a2] w fun e w' => e = .returned (.int .i64 r) ∧ Drawn0 w w' := by
 have HR0 := aM hr0; have HC0 := aM hc0; clear hr0 hc0; have H : (e_Follows.l0 k a1 a2 0 l0 (l0.length : Int) 0) = some r := h; clear h
 have H' := aM H
 clear H
 go_enter Tryd.func60, Tryd.ntmps60
 go_wp2
 go_loopg [7, 13] k (fun kq v7 v13 w' => ∃ (x7_1 : Int) (x13_1 : Int), v7 = .int .i64 x7_1 ∧ v13 = .int .i64 x13_1 ∧ Aside0 (e_Follows.l0 kq a1 a2 x7_1 l0 (l0.length : Int) x13_1 = some r) ∧ Aside0 (kq ≤ k) ∧ Drawn0 w w')
 case atStart => exact ⟨(0), (0), eT, eT, H', ⟨Nat.le_refl _⟩, by repeat (first | exact Drawn0.refl _ | apply Drawn0.step)⟩
 clear H'
 obtain ⟨x7_1, x13_1, rfl, rfl, HA, HK1, ⟨m1, rfl⟩⟩ := hrel
 cases gk with
 | zero => exact absurd HA.out (by simp [e_Follows.l0])
 | succ k1 =>
  have H := HA.out; clear HA
  simp only [e_Follows.l0] at H
  by_cases c4 : x13_1 < (l0.length : Int)
  rotate_left
  ·
   rw [if_neg c4] at H
   have c4b0 := decide_eq_false c4; clear c4
   obtain rfl := Option.some.inj H
   go_wp2
   go_ret
   exact ⟨by first | rfl | (simp; done) | (simp [*]; done), by repeat (first | exact Drawn0.refl _ | apply Drawn0.step)⟩


  rw [if_pos c4] at H; have c4b0 := decide_eq_true c4; clear c4
  obtain ⟨c5, H⟩ := iP H; have c5b0 := decide_eq_true c5; clear c5
  obtain ⟨c6, H⟩ := iP H; have c6b0 := decide_eq_true c6; clear c6
  have H' := aM H
  clear H; obtain ⟨p144, q144, ad144, A144_0, c144_0, e144, hx144_0, hl144_0, hi144_0⟩ := aT (at_L1 HR0.out x13_1); cases e144; have HR144_0 := aM hi144_0; have HC144_0 := aM hl144_0; clear hi144_0 hl144_0
  go_wp2
  go_loopg [7, 10] k1 (fun kq v7 v10 w' => ∃ (x7_2 : Int) (x10_2 : Int), v7 = .int .i64 x7_2 ∧ v10 = .int .i64 x10_2 ∧ Aside0 (e_Follows.l1 kq a1 a2 x7_2 (rd_L1 l0 x13_1) x10_2 l0 (l0.length : Int) x13_1 = some r) ∧ Aside0 (kq ≤ k1) ∧ Drawn0 w w')
  case atStart => exact ⟨(x7_1), (1), eT, eT, H', ⟨Nat.le_refl _⟩, by repeat (first | exact Drawn0.refl _ | apply Drawn0.step)⟩
  clear H'
  try clear hx1
  try clear hx144_0
  obtain ⟨x7_2, x10_2, rfl, rfl, HA, HK2, ⟨m2, rfl⟩⟩ := hrel
  cases gk with
  | zero => exact absurd HA.out (by simp [e_Follows.l1])
  | succ k2 =>
   have H := HA.out; clear HA
   simp only [e_Follows.l1] at H
   by_cases c7 : x10_2 < ((rd_L1 l0 x13_1).length : Int)
   rotate_left
   ·
    rw [if_neg c7] at H
    have c7b0 := decide_eq_false c7; clear c7
    have H' := aM H
    clear H
    go_wp2
    go_roundg k2
    case measure => have := HK1.out; have := HK2.out; omega
    case rel => exact ⟨(x7_2), (wrap64 (x13_1 + 1)), eT, eT, H', ⟨by have := HK1.out; have := HK2.out; omega⟩, by repeat (first | exact Drawn0.refl _ | apply Drawn0.step)⟩
   rw [if_pos c7] at H; have c7b0 := decide_eq_true c7; clear c7
   obtain ⟨ji8, hji8⟩ : ∃ j_ : Int, (wrap64 (x10_2 - 1)) = j_ := ⟨_, rfl⟩
   replace H : (if 0 ≤ (ji8) then (if (ji8) < ((rd_L1 l0 x13_1).length : Int) then (if (rdOf ByteArray.empty (rd_L1 l0 x13_1) (ji8)).toList = a1.toList then (if 0 ≤ x10_2 then (if (rdOf ByteArray.empty (rd_L1 l0 x13_1) x10_2).toList = a2.toList then (e_Follows.l1 k2 a1 a2 (wrap64 (x7_2 + 1)) (rd_L1 l0 x13_1) (wrap64 (x10_2 + 1)) l0 (l0.length : Int) x13_1) else (e_Follows.l1 k2 a1 a2 x7_2 (rd_L1 l0 x13_1) (wrap64 (x10_2 + 1)) l0 (l0.length : Int) x13_1)) else (none)) else (e_Follows.l1 k2 a1 a2 x7_2 (rd_L1 l0 x13_1) (wrap64 (x10_2 + 1)) l0 (l0.length : Int) x13_1)) else (none)) else (none)) = some r := by first | (rw [hji8] at H; exact H) | (simp only [hji8] at H ⊢; exact H)
   have hji8w : (IntKind.i64.wrap (x10_2 - 1)) = ji8 := (i64_w _).trans hji8
   obtain ⟨c9, H⟩ := iP H; have c9b0 := decide_eq_true c9; clear c9
   obtain ⟨c10, H⟩ := iP H; have c10b0 := decide_eq_true c10; clear c10
   by_cases c11 : (rdOf ByteArray.empty (rd_L1 l0 x13_1) (ji8)).toList = a1.toList
   rotate_left
   ·
    rw [if_neg c11] at H
    have c11b0 : ((rdOf ByteArray.empty (rd_L1 l0 x13_1) (ji8)).toList == a1.toList) = false := beq_eq_false_iff_ne.mpr c11; have c11b1 : ((rdOf ByteArray.empty (rd_L1 l0 x13_1) (ji8)).toList != a1.toList) = true := bne_iff_ne.mpr c11
    have H' := aM H
    clear H; obtain ⟨p145, q145, ad145, e145, hx145_0⟩ := aT (Kd.at_string HR144_0.out (ji8)); cases e145
    go_wp2
    go_roundg k2
    case measure => have := HK1.out; have := HK2.out; omega
    case rel => exact ⟨(x7_2), (wrap64 (x10_2 + 1)), eT, eT, H', ⟨by have := HK1.out; have := HK2.out; omega⟩, by repeat (first | exact Drawn0.refl _ | apply Drawn0.step)⟩
   rw [if_pos c11] at H; have c11b0 : ((rdOf ByteArray.empty (rd_L1 l0 x13_1) (ji8)).toList == a1.toList) = true := beq_iff_eq.mpr c11; have c11b1 : ((rdOf ByteArray.empty (rd_L1 l0 x13_1) (ji8)).toList != a1.toList) = false := bne_eq_false_iff_eq.mpr c11; clear c11
   obtain ⟨c12, H⟩ := iP H; have c12b0 := decide_eq_true c12; clear c12
   by_cases c13 : (rdOf ByteArray.empty (rd_L1 l0 x13_1) x10_2).toList = a2.toList
   rotate_left
   ·
    rw [if_neg c13] at H
    have c13b0 : ((rdOf ByteArray.empty (rd_L1 l0 x13_1) x10_2).toList == a2.toList) = false := beq_eq_false_iff_ne.mpr c13; have c13b1 : ((rdOf ByteArray.empty (rd_L1 l0 x13_1) x10_2).toList != a2.toList) = true := bne_iff_ne.mpr c13
    have H' := aM H
    clear H; obtain ⟨p145, q145, ad145, e145, hx145_0⟩ := aT (Kd.at_string HR144_0.out (ji8)); cases e145; obtain ⟨p146, q146, ad146, e146, hx146_0⟩ := aT (Kd.at_string HR144_0.out x10_2); obtain rfl : ad145 = ad146 := (by injection e146)
    go_wp2
    go_roundg k2
    case measure => have := HK1.out; have := HK2.out; omega
    case rel => exact ⟨(x7_2), (wrap64 (x10_2 + 1)), eT, eT, H', ⟨by have := HK1.out; have := HK2.out; omega⟩, by repeat (first | exact Drawn0.refl _ | apply Drawn0.step)⟩
   rw [if_pos c13] at H; have c13b0 : ((rdOf ByteArray.empty (rd_L1 l0 x13_1) x10_2).toList == a2.toList) = true := beq_iff_eq.mpr c13; have c13b1 : ((rdOf ByteArray.empty (rd_L1 l0 x13_1) x10_2).toList != a2.toList) = false := bne_eq_false_iff_eq.mpr c13; clear c13
   have H' := aM H
   clear H; obtain ⟨p145, q145, ad145, e145, hx145_0⟩ := aT (Kd.at_string HR144_0.out (ji8)); cases e145; obtain ⟨p146, q146, ad146, e146, hx146_0⟩ := aT (Kd.at_string HR144_0.out x10_2); obtain rfl : ad145 = ad146 := (by injection e146)
   go_wp2
   go_roundg k2
   case measure => have := HK1.out; have := HK2.out; omega
   case rel => exact ⟨(wrap64 (x7_2 + 1)), (wrap64 (x10_2 + 1)), eT, eT, H', ⟨by have := HK1.out; have := HK2.out; omega⟩, by repeat (first | exact Drawn0.refl _ | apply Drawn0.step)⟩


section
-- STUBBED 43
/-! ### e_Relation: function 43: by hand -/

def relOf (x y : Int) : Int := if x > 0 then (if y > 0 then 3 else 1) else (if y > 0 then 2 else 0)
def e_Relation.f (k : Nat) (l0 : List (List ByteArray)) (a1 : ByteArray) (a2 : ByteArray) : Option (Int) := (e_Follows.f k l0 a1 a2).bind fun t107 => ((e_Follows.f k l0 a2 a1).bind fun t108 => some (relOf t107 t108))
theorem e_Relation.mono (a0 : List (List ByteArray)) (a1 a2 : ByteArray) (k : Nat) : LeO (e_Relation.f k a0 a1 a2) (e_Relation.f (k + 1) a0 a1 a2) :=
 LeO.bind (e_Follows.mono _ _ _ _) fun _ => LeO.bind (e_Follows.mono _ _ _ _) fun _ => LeO.refl _
set_option maxHeartbeats 8000000 in
set_option maxRecDepth 100000 in
theorem e_Relation.calls (k : Nat) (A0 : Option Addr) (c0 : Nat) (l0 : List (List ByteArray)) (a1 : ByteArray) (a2 : ByteArray) (r : Int) (w : World) (hr0 : Kd.C (Kd.slice 9 Kd.string) w A0 l0.length l0) (hc0 : l0.length ≤ c0) (h : e_Relation.f k l0 a1 a2 = some r) :
  Calls Tryd.prog 43 #[.slice A0 l0.length c0, .string a1, .string a2] w fun e w' => e = .returned (.int .i64 r) ∧ Drawn0 w w' := by
 have HR0 := aM hr0
 have HC0 := aM hc0
 clear hr0 hc0
 unfold e_Relation.f at h
 obtain ⟨t107, A40, h⟩ := Option.bind_eq_some_iff.mp h
 obtain ⟨t108, A50, h⟩ := Option.bind_eq_some_iff.mp h
 obtain rfl := Option.some.inj h
 have A4 := aM A40
 have A5 := aM A50
 clear A40 A50 h
 obtain ⟨rv, hrv⟩ : ∃ rv, relOf t107 t108 = rv := ⟨_, rfl⟩
 rw [hrv]
 have HRV := aM hrv
 clear hrv
 obtain ⟨x, hx⟩ : ∃ x, decide (0 < t107) = x := ⟨_, rfl⟩
 obtain ⟨y, hy⟩ : ∃ y, decide (0 < t108) = y := ⟨_, rfl⟩
 cases x <;> cases y
 all_goals (
  go_enter Tryd.func43, Tryd.ntmps43
  go_wp2_with (first | ((with_reducible refine gate_callee (f := 60) rfl ?_); refine gM (some 12) Tryd.func60 #[.slice A0 l0.length c0, .string a1, .string a2] ?_; (with_reducible refine (e_Follows.calls k _ _ l0 a1 a2 t107 _ ?side1 ?side2 A4.out).mono ?_); (case side1 => repeat (first | exact HR0.out | (with_reducible refine Kd.C_alloc ?_ _) | (with_reducible refine Kd.C_drewN ?_ _) | (with_reducible refine Kd.C_drew ?_))); (case side2 => exact HC0.out); rintro e w' ⟨rfl, ⟨nd, rfl⟩⟩; refine ⟨_, rfl, ?_⟩) | ((with_reducible refine gate_callee (f := 60) rfl ?_); refine gM (some 17) Tryd.func60 #[.slice A0 l0.length c0, .string a2, .string a1] ?_; (with_reducible refine (e_Follows.calls k _ _ l0 a2 a1 t108 _ ?side1 ?side2 A5.out).mono ?_); (case side1 => repeat (first | exact HR0.out | (with_reducible refine Kd.C_alloc ?_ _) | (with_reducible refine Kd.C_drewN ?_ _) | (with_reducible refine Kd.C_drew ?_))); (case side2 => exact HC0.out); rintro e w' ⟨rfl, ⟨nd, rfl⟩⟩; refine ⟨_, rfl, ?_⟩))
  go_ret
  have e := HRV.out
  simp only [decide_eq_true_eq, decide_eq_false_iff_not] at hx hy
  rw [relOf] at e
  simp only [gt_iff_lt, hx, hy, if_true, if_false] at e
  subst e
  exact ⟨rfl, by repeat (first | exact Drawn0.refl _ | apply Drawn0.step)⟩)


end



/-! ### d_Footprint: function 19 -/
mutual
def d_Footprint.l0 : Nat → List (List ByteArray) → List ByteArray → List (List Int) → List ByteArray → Int → Int → Option ((List (List Int)) × Int)
 | 0, _, _, _, _, _, _ => none
 | k + 1, x0, x5, x6, x29, x30, x31 => if x31 < x30 then (if 0 ≤ x31 then (if x31 < (x29.length : Int) then (d_Footprint.l1 k x0 x5 x6 x31 (rdOf ByteArray.empty x29 x31) x29 x30 x31 x5 (x5.length : Int) 0) else (none)) else (none)) else (some (x6, 0))
def d_Footprint.l1 : Nat → List (List ByteArray) → List ByteArray → List (List Int) → Int → ByteArray → List ByteArray → Int → Int → List ByteArray → Int → Int → Option ((List (List Int)) × Int)
 | 0, _, _, _, _, _, _, _, _, _, _, _ => none
 | k + 1, x0, x5, x6, x7, x8, x29, x30, x31, x36, x37, x38 => if x38 < x37 then (if 0 ≤ x38 then (if x38 < (x36.length : Int) then (if 0 ≤ x7 then (if x7 < (x6.length : Int) then ((e_Relation.f k x0 x8 (rdOf ByteArray.empty x36 x38)).bind fun t159 => (if (rd_L5 x6 x7).length < 17592186044416 then (d_Footprint.l1 k x0 x5 (x6.set (x7 : Int).toNat ((rd_L5 x6 x7) ++ [t159])) x7 x8 x29 x30 x31 x36 x37 (wrap64 (x38 + 1))) else (none))) else (none)) else (none)) else (none)) else (none)) else (d_Footprint.l0 k x0 x5 x6 x29 x30 (wrap64 (x31 + 1)))
end
def d_Footprint.f (k : Nat) (l0 : List (List ByteArray)) : Option ((List (List Int)) × Int) := (e_Check.f k l0).bind fun bt147 => (if bt147.1 = 0 then ((e_Activities.f k l0).bind fun t150 => (if (t150.length : Int) = 0 then (some (([] : List (List Int)), 19)) else (if (t150.length : Int) > 12 then (some (([] : List (List Int)), 2)) else (if 0 ≤ (t150.length : Int) then (if ((t150.length : Int) : Int).toNat ≤ 11728124029610 then (d_Footprint.l0 k l0 t150 (List.replicate ((t150.length : Int) : Int).toNat []) t150 (t150.length : Int) 0) else (none)) else (none))))) else (some (([] : List (List Int)), bt147.1)))
theorem d_Footprint.mono_l : ∀ k, (∀ y0 y1 y2 y3 y4 y5, LeO (d_Footprint.l0 k y0 y1 y2 y3 y4 y5) (d_Footprint.l0 (k + 1) y0 y1 y2 y3 y4 y5)) ∧ (∀ y0 y1 y2 y3 y4 y5 y6 y7 y8 y9 y10, LeO (d_Footprint.l1 k y0 y1 y2 y3 y4 y5 y6 y7 y8 y9 y10) (d_Footprint.l1 (k + 1) y0 y1 y2 y3 y4 y5 y6 y7 y8 y9 y10))
 | 0 => ⟨fun _ _ _ _ _ _ r h => by simp [d_Footprint.l0] at h, fun _ _ _ _ _ _ _ _ _ _ _ r h => by simp [d_Footprint.l1] at h⟩
 | k + 1 => by
  obtain ⟨ih0, ih1⟩ := d_Footprint.mono_l k
  refine ⟨?_, ?_⟩ <;> intros <;> (first | unfold d_Footprint.l0 | unfold d_Footprint.l1)
  all_goals repeat' first
   | (with_reducible first | apply ih0 | apply ih1 | apply e_Activities.mono | apply e_Check.mono | apply e_Relation.mono | exact LeO.refl _ | exact LeO.none _ | refine LeO.ite ?_ ?_ | refine LeO.bind ?_ (fun _ => ?_))
theorem d_Footprint.mono : ∀ a0 k, LeO (d_Footprint.f k a0) (d_Footprint.f (k + 1) a0) := by
 intro a0 k
 obtain ⟨ih0, ih1⟩ := d_Footprint.mono_l k
 unfold d_Footprint.f
 repeat' first
   | (with_reducible first | apply ih0 | apply ih1 | apply e_Activities.mono | apply e_Check.mono | apply e_Relation.mono | exact LeO.refl _ | exact LeO.none _ | refine LeO.ite ?_ ?_ | refine LeO.bind ?_ (fun _ => ?_))
def d_Footprint.T16 : Bool × List (List Nat × List Nat) := (true, [([], []), ([], []), ([], []), ([], []), ([2, 3], [2, 3]), ([4], [4]), ([], []), ([], []), ([], []), ([6, 7, 8], [6, 7, 8]), ([9], [9]), ([5, 10, 9], [5, 10]), ([0, 1, 0, 1, 2, 3, 4, 5, 6, 7, 8, 9, 10, 11], [0, 1]), ([12, 11, 11, 0, 1, 2, 3, 4, 5, 6, 7, 8, 9, 10, 11], [11, 12])])
def d_Footprint.B16 : List Nat := [0, 0, 0, 0, 12, 28, 0, 0, 0, 448, 960, 2044, 4095, 8191]
theorem d_Footprint.tab16 : rtab .any (opsOf Tryd.f19 16) = d_Footprint.T16 := by kernel_rfl
theorem d_Footprint.bits16 : waitsOk d_Footprint.T16.2 d_Footprint.B16 = true := by kernel_rfl
set_option maxHeartbeats 8000000 in
set_option maxRecDepth 100000 in
theorem d_Footprint.calls (k : Nat) (A0 : Option Addr) (c0 : Nat) (l0 : List (List ByteArray)) (r1 : List (List Int)) (r2 : Int) (w : World) (hr0 : Kd.C (Kd.slice 9 Kd.string) w A0 l0.length l0) (hc0 : l0.length ≤ c0) (h : d_Footprint.f k l0 = some (r1, r2)) :
  Calls Tryd.prog 19 #[.slice A0 l0.length c0] w fun e w' => ∃ v0_ : Value, e = .returned (.tuple #[v0_, .int .i64 r2]) ∧ Kd.S (Kd.slice 3 (Kd.int .i64)) 36 w' w.heap.size (fun _ => True) v0_ r1 ∧ Below w.heap.size w w' := by
 have hu66 := Tryd.underlying66; have hu3 := Tryd.underlying3; have hu29 := Tryd.underlying29; have HR0 := aM hr0; have HC0 := aM hc0; clear hr0 hc0; have HB := aM (Below.refl w.heap.size w)
 have H : ((e_Check.f k l0).bind fun bt147 => (if bt147.1 = 0 then ((e_Activities.f k l0).bind fun t150 => (if (t150.length : Int) = 0 then (some (([] : List (List Int)), 19)) else (if (t150.length : Int) > 12 then (some (([] : List (List Int)), 2)) else (if 0 ≤ (t150.length : Int) then (if ((t150.length : Int) : Int).toNat ≤ 11728124029610 then (d_Footprint.l0 k l0 t150 (List.replicate ((t150.length : Int) : Int).toNat []) t150 (t150.length : Int) 0) else (none)) else (none))))) else (some (([] : List (List Int)), bt147.1)))) = some (r1, r2) := h
 clear h; obtain ⟨⟨t147, t148⟩, A2, H⟩ := iB H; (try dsimp only at H)
 by_cases c3 : t147 = 0
 rotate_left
 ·
  rw [if_neg c3] at H
  have c3b0 : (t147 == 0) = false := beq_eq_false_iff_ne.mpr c3; have c3b1 : (t147 != 0) = true := bne_iff_ne.mpr c3
  simp only [Option.some.injEq, Prod.mk.injEq] at H
  obtain ⟨rfl, rfl⟩ := H
  go_enter Tryd.func19, Tryd.ntmps19
  try go_wp2_with (first | ((with_reducible refine gate_callee (f := 42) rfl ?_); refine gM (some 12) Tryd.func42 #[.slice A0 l0.length c0] ?_; (with_reducible refine (e_Check.calls k _ _ l0 t147 t148 _ ?side1 ?side2 A2.out).mono ?_); (case side1 => repeat (first | exact HR0.out | (with_reducible refine Kd.C_alloc ?_ _) | (with_reducible refine Kd.C_drewN ?_ _) | (with_reducible refine Kd.C_drew ?_))); (case side2 => exact HC0.out); rintro e w44 ⟨rfl, hb⟩; refine ⟨_, rfl, ?_⟩; replace HB := aM (below_step (bB HB.out) hb); clear hb) | ((with_reducible refine gate_dst (N := 4) rfl ?_); refine bX 4 (cs := #[.int .i64 0, .int .i64 0]) (t := 66) ?_; intro gb149 hg w45 hbox hb; have BK149 := aM (hbox); have GW149 := aM (gE hg (below_size (bB HB.out))); have GE149 := GW149; replace HB := aM (below_step (bB HB.out) hb); clear hb hbox hg; obtain ⟨hcz46_0, hcz46_1, hfz46_0, hfz46_1⟩ := cd2 BK149.out))
  have n0_ : Aside0 (((w45.setCell ⟨gb149, 0, none⟩ (.int .i64 t147)).setCell ⟨gb149, 1, none⟩ (.int .i64 t148)).heap[gb149]? = some (.cells #[.int .i64 t147, .int .i64 t148] 66 (0, 0))) := ⟨bP BK149.out⟩
  have n1_ : Aside0 (Below w.heap.size w ((w45.setCell ⟨gb149, 0, none⟩ (.int .i64 t147)).setCell ⟨gb149, 1, none⟩ (.int .i64 t148))) := ⟨bB1 HB.out GE149.out⟩
  (try clear BK149)
  (try clear HB)
  generalize ((w45.setCell ⟨gb149, 0, none⟩ (.int .i64 t147)).setCell ⟨gb149, 1, none⟩ (.int .i64 t148)) = w47 at n0_ n1_ ⊢
  have BK149 := n0_; have HB := n1_; clear n0_ n1_; replace BK149 := aM (blk_drew BK149.out); replace HB := aM (below_drew1 HB.out)
  refine start_ (n := 4) (S := fun w' => w'.cell? ⟨gb149, 0, none⟩ = some (.int .i64 t147) ∧ w'.cell? ⟨gb149, 1, none⟩ = some (.int .i64 t148)) (ds := []) #[false, false, false, false] (by kernel_rfl) rfl rfl ⟨(blk_cell BK149.out 0).trans rfl, (blk_cell BK149.out 1).trans rfl⟩ (fun hHeld => ?_)
  generalize w47.drew = w48 at BK149 HB hHeld ⊢
  refine pU 0 16 (by kernel_rfl) ?_
  refine pU 2 2 (by kernel_rfl) ?_
  refine tU 1 17 (by kernel_rfl) hHeld ?_
  refine pU 3 3 (by kernel_rfl) ?_
  refine done_ (by kernel_rfl) ?_
  try go_wp2
  go_ret2
  exact ⟨_, rT, nT, bB1 HB.out GE149.out⟩


 rw [if_pos c3] at H; have c3b0 : (t147 == 0) = true := beq_iff_eq.mpr c3; have c3b1 : (t147 != 0) = false := bne_eq_false_iff_eq.mpr c3; clear c3; obtain ⟨t150, A4, H⟩ := iB H; (try dsimp only at H)
 by_cases c5 : (t150.length : Int) = 0
 ·
  rw [if_pos c5] at H
  have c5b0 : ((t150.length : Int) == 0) = true := beq_iff_eq.mpr c5; have c5b1 : ((t150.length : Int) != 0) = false := bne_eq_false_iff_eq.mpr c5; clear c5
  simp only [Option.some.injEq, Prod.mk.injEq] at H
  obtain ⟨rfl, rfl⟩ := H
  go_enter Tryd.func19, Tryd.ntmps19
  go_wp2_with (first | ((with_reducible refine gate_callee (f := 42) rfl ?_); refine gM (some 12) Tryd.func42 #[.slice A0 l0.length c0] ?_; (with_reducible refine (e_Check.calls k _ _ l0 t147 t148 _ ?side1 ?side2 A2.out).mono ?_); (case side1 => repeat (first | exact HR0.out | (with_reducible refine Kd.C_alloc ?_ _) | (with_reducible refine Kd.C_drewN ?_ _) | (with_reducible refine Kd.C_drew ?_))); (case side2 => exact HC0.out); rintro e w6 ⟨rfl, hb⟩; refine ⟨_, rfl, ?_⟩; replace HB := aM (below_step (bB HB.out) hb); clear hb) | ((with_reducible refine gate_dst (N := 4) rfl ?_); refine bX 4 (cs := #[.int .i64 0, .int .i64 0]) (t := 66) ?_; intro gb149 hg w7 hbox hb; have BK149 := aM (hbox); have GW149 := aM (gE hg (below_size (bB HB.out))); have GE149 := GW149; replace HB := aM (below_step (bB HB.out) hb); clear hb hbox hg; obtain ⟨hcz8_0, hcz8_1, hfz8_0, hfz8_1⟩ := cd2 BK149.out) | ((with_reducible refine gate_callee (f := 27) rfl ?_); refine gM (some 19) Tryd.func27 #[.slice A0 l0.length c0] ?_; (with_reducible refine (e_Activities.calls k _ _ l0 t150 _ ?side1 ?side2 A4.out).mono ?_); (case side1 => exact Kd.C_below HR0.out (bB1 HB.out GE149.out)); (case side2 => exact HC0.out); rintro e w9 ⟨v151, rfl, ho0, hb⟩; refine ⟨_, rfl, ?_⟩; have HO152 := aM (Kd.R_lower ho0 (below_size (bB1 HB.out GE149.out))); replace BK149 := aM (blk_below (g := gb149) (o := .cells #[.int .i64 t147, .int .i64 t148] 66 (0, 0)) (bP BK149.out) hb); replace HB := aM (below_step (bB1 HB.out GE149.out) hb); clear hb ho0; obtain ⟨Ao10, co10, eo10⟩ := Kd.R_slice HO152.out; subst eo10))
  go_ret2
  exact ⟨_, rT, nT, bB1 HB.out GE149.out⟩
 rw [if_neg c5] at H; have c5b0 : ((t150.length : Int) == 0) = false := beq_eq_false_iff_ne.mpr c5; have c5b1 : ((t150.length : Int) != 0) = true := bne_iff_ne.mpr c5
 have c5b2 : ¬ (t150 = []) := fun h_ => c5 (by rw [h_]; rfl)
 by_cases c11 : (t150.length : Int) > 12
 ·
  rw [if_pos c11] at H
  have c11b0 : decide (12 < (t150.length : Int)) = true := decide_eq_true c11; have c11b1 : decide (12 < t150.length) = true := decide_eq_true (by omega); clear c11
  simp only [Option.some.injEq, Prod.mk.injEq] at H
  obtain ⟨rfl, rfl⟩ := H
  go_enter Tryd.func19, Tryd.ntmps19
  go_wp2_with (first | ((with_reducible refine gate_callee (f := 42) rfl ?_); refine gM (some 12) Tryd.func42 #[.slice A0 l0.length c0] ?_; (with_reducible refine (e_Check.calls k _ _ l0 t147 t148 _ ?side1 ?side2 A2.out).mono ?_); (case side1 => repeat (first | exact HR0.out | (with_reducible refine Kd.C_alloc ?_ _) | (with_reducible refine Kd.C_drewN ?_ _) | (with_reducible refine Kd.C_drew ?_))); (case side2 => exact HC0.out); rintro e w12 ⟨rfl, hb⟩; refine ⟨_, rfl, ?_⟩; replace HB := aM (below_step (bB HB.out) hb); clear hb) | ((with_reducible refine gate_dst (N := 4) rfl ?_); refine bX 4 (cs := #[.int .i64 0, .int .i64 0]) (t := 66) ?_; intro gb149 hg w13 hbox hb; have BK149 := aM (hbox); have GW149 := aM (gE hg (below_size (bB HB.out))); have GE149 := GW149; replace HB := aM (below_step (bB HB.out) hb); clear hb hbox hg; obtain ⟨hcz14_0, hcz14_1, hfz14_0, hfz14_1⟩ := cd2 BK149.out) | ((with_reducible refine gate_callee (f := 27) rfl ?_); refine gM (some 19) Tryd.func27 #[.slice A0 l0.length c0] ?_; (with_reducible refine (e_Activities.calls k _ _ l0 t150 _ ?side1 ?side2 A4.out).mono ?_); (case side1 => exact Kd.C_below HR0.out (bB1 HB.out GE149.out)); (case side2 => exact HC0.out); rintro e w15 ⟨v151, rfl, ho0, hb⟩; refine ⟨_, rfl, ?_⟩; have HO152 := aM (Kd.R_lower ho0 (below_size (bB1 HB.out GE149.out))); replace BK149 := aM (blk_below (g := gb149) (o := .cells #[.int .i64 t147, .int .i64 t148] 66 (0, 0)) (bP BK149.out) hb); replace HB := aM (below_step (bB1 HB.out GE149.out) hb); clear hb ho0; obtain ⟨Ao16, co16, eo16⟩ := Kd.R_slice HO152.out; subst eo16))
  go_ret2
  exact ⟨_, rT, nT, bB1 HB.out GE149.out⟩
 rw [if_neg c11] at H; have c11b0 : decide (12 < (t150.length : Int)) = false := decide_eq_false c11; have c11b1 : decide (12 < t150.length) = false := decide_eq_false (by omega); clear c11
 obtain ⟨c17, H⟩ := iP H; have c17b0 := eq_true c17; have c17b1 := decide_eq_true c17; clear c17
 obtain ⟨c18, H⟩ := iP H; have c18b0 := eq_true c18; have c18b1 := decide_eq_true c18; clear c18
 obtain ⟨y153, hy153⟩ : ∃ y_ : List (List Int), y_ = (List.replicate ((t150.length : Int) : Int).toNat []) := ⟨_, rfl⟩
 replace H : (d_Footprint.l0 k l0 t150 y153 t150 (t150.length : Int) 0) = some (r1, r2) := yT hy153 H
 have Ny153 := aM hy153; clear hy153
 have H' := aM H
 clear H
 go_enter Tryd.func19, Tryd.ntmps19
 go_wp2_with (first | ((with_reducible refine gate_callee (f := 42) rfl ?_); refine gM (some 12) Tryd.func42 #[.slice A0 l0.length c0] ?_; (with_reducible refine (e_Check.calls k _ _ l0 t147 t148 _ ?side1 ?side2 A2.out).mono ?_); (case side1 => repeat (first | exact HR0.out | (with_reducible refine Kd.C_alloc ?_ _) | (with_reducible refine Kd.C_drewN ?_ _) | (with_reducible refine Kd.C_drew ?_))); (case side2 => exact HC0.out); rintro e w19 ⟨rfl, hb⟩; refine ⟨_, rfl, ?_⟩; replace HB := aM (below_step (bB HB.out) hb); clear hb) | ((with_reducible refine gate_dst (N := 4) rfl ?_); refine bX 4 (cs := #[.int .i64 0, .int .i64 0]) (t := 66) ?_; intro gb149 hg w20 hbox hb; have BK149 := aM (hbox); have GW149 := aM (gE hg (below_size (bB HB.out))); have GE149 := GW149; replace HB := aM (below_step (bB HB.out) hb); clear hb hbox hg; obtain ⟨hcz21_0, hcz21_1, hfz21_0, hfz21_1⟩ := cd2 BK149.out) | ((with_reducible refine gate_callee (f := 27) rfl ?_); refine gM (some 19) Tryd.func27 #[.slice A0 l0.length c0] ?_; (with_reducible refine (e_Activities.calls k _ _ l0 t150 _ ?side1 ?side2 A4.out).mono ?_); (case side1 => exact Kd.C_below HR0.out (bB1 HB.out GE149.out)); (case side2 => exact HC0.out); rintro e w22 ⟨v151, rfl, ho0, hb⟩; refine ⟨_, rfl, ?_⟩; have HO152 := aM (Kd.R_lower ho0 (below_size (bB1 HB.out GE149.out))); replace BK149 := aM (blk_below (g := gb149) (o := .cells #[.int .i64 t147, .int .i64 t148] 66 (0, 0)) (bP BK149.out) hb); replace HB := aM (below_step (bB1 HB.out GE149.out) hb); clear hb ho0; obtain ⟨Ao23, co23, eo23⟩ := Kd.R_slice HO152.out; subst eo23) | ((with_reducible refine gate_dst (N := 28) rfl ?_); refine Kd.S_make (Kd.slice 3 (Kd.int .i64)) _ 36 rfl (N := 28) rfl 47 _ _ rfl (t150.length : Int) rfl rfl Tryd.underlying47 (.slice none 0 0) 24 info36 rfl (by decide) (by omega) [] (ok := fun _ => True) (okp := fun _ => True) ⟨_, rfl, Kd.R_nil _ _ _ _ _⟩ (fun _ hk => hk) trivial (dT) (Nat.le_trans (Nat.mul_le_mul_right _ (dT : (t150.length : Int).toNat ≤ 11728124029610)) (by omega)) (Below.refl _ _) (Nat.le_refl _) ?_; intro v154 w24 ho25 hb hg_ hnew_; clear hg_ hnew_; (first | rw [← Ny153.out] at ho25 | (simp only [Int.reduceToNat] at ho25; rw [← Ny153.out] at ho25)); replace HO152 := aM (Kd.R_below (oR HO152.out) hb); have HO155 := aM (Kd.S_lower ho25 (below_size (bB1 HB.out GE149.out))); replace BK149 := aM (kW BK149.out hb); replace HB := aM (below_step (bB1 HB.out GE149.out) hb); clear hb ho25))
 go_loopg [31] k (fun kq v31 w' => ∃ (x6_1 : List (List Int)) (x31_1 : Int), v31 = .int .i64 x31_1 ∧ Aside0 (d_Footprint.l0 kq l0 t150 x6_1 t150 (t150.length : Int) x31_1 = some (r1, r2)) ∧ Aside0 (kq ≤ k) ∧ Aside0 (Kd.R Kd.string 9 w' w.heap.size (fun _ => True) (.slice Ao23 t150.length co23) t150) ∧ Aside0 (Kd.S (Kd.slice 3 (Kd.int .i64)) 36 w' w.heap.size (fun _ => True) v154 x6_1) ∧ Aside0 (Kd.R Kd.string 9 w' w.heap.size (fun _ => True) (.slice Ao23 t150.length co23) t150) ∧ Aside0 (w'.heap[gb149]? = some (.cells #[.int .i64 t147, .int .i64 t148] 66 (0, 0))) ∧ Aside0 (Below w.heap.size w w'))
 case atStart => exact ⟨(y153), (0), eT, H', ⟨Nat.le_refl _⟩, ⟨oR HO152.out⟩, ⟨oS HO155.out⟩, ⟨oR HO152.out⟩, ⟨kB BK149.out⟩, ⟨bB1 HB.out GE149.out⟩⟩
 clear H'; obtain ⟨x6_1, x31_1, rfl, HA, HK1, HO_5, HO_6, HO_29, BK149, HB⟩ := hrel
 cases gk with
 | zero => exact absurd HA.out (by simp [d_Footprint.l0])
 | succ k1 =>
  have H := HA.out; clear HA
  simp only [d_Footprint.l0] at H
  by_cases c26 : x31_1 < (t150.length : Int)
  rotate_left
  ·
   rw [if_neg c26] at H
   have c26b0 := decide_eq_false c26; clear c26
   simp only [Option.some.injEq, Prod.mk.injEq] at H
   obtain ⟨rfl, rfl⟩ := H
   go_wp2
   go_ret2
   exact ⟨_, rT, oS HO_6.out, bB1 HB.out GE149.out⟩
  rw [if_pos c26] at H; have c26b0 := decide_eq_true c26; clear c26
  obtain ⟨c27, H⟩ := iP H; have c27b0 := decide_eq_true c27; clear c27
  obtain ⟨c28, H⟩ := iP H; have c28b0 := decide_eq_true c28; clear c28
  have H' := aM H
  clear H; have p156 : 0 ≤ (x31_1 : Int) := dT; have q156 : x31_1 < (t150.length : Int) := dT
  try (obtain ⟨Aoz156, coz156, eoz156⟩ := Kd.R_slice HO_29.out; subst eoz156)
  obtain ⟨ad156, e156, hx156_0⟩ := Kd.at_string (Kd.R_reads' HO_29.out).2.2 x31_1 p156 q156; cases e156; replace p156 := eq_true p156; replace q156 := eq_true q156
  go_wp2
  go_loopg [38] k1 (fun kq v38 w' => ∃ (x6_2 : List (List Int)) (x38_2 : Int), v38 = .int .i64 x38_2 ∧ Aside0 (d_Footprint.l1 kq l0 t150 x6_2 x31_1 (rdOf ByteArray.empty t150 x31_1) t150 (t150.length : Int) x31_1 t150 (t150.length : Int) x38_2 = some (r1, r2)) ∧ Aside0 (kq ≤ k1) ∧ Aside0 (Kd.R Kd.string 9 w' w.heap.size (fun _ => True) (.slice (some ad156) t150.length co23) t150) ∧ Aside0 (Kd.S (Kd.slice 3 (Kd.int .i64)) 36 w' w.heap.size (fun _ => True) v154 x6_2) ∧ Aside0 (Kd.R Kd.string 9 w' w.heap.size (fun _ => True) (.slice (some ad156) t150.length co23) t150) ∧ Aside0 (Kd.R Kd.string 9 w' w.heap.size (fun _ => True) (.slice (some ad156) t150.length co23) t150) ∧ Aside0 (w'.heap[gb149]? = some (.cells #[.int .i64 t147, .int .i64 t148] 66 (0, 0))) ∧ Aside0 (Below w.heap.size w w'))
  case atStart => exact ⟨(x6_1), (0), eT, H', ⟨Nat.le_refl _⟩, ⟨oR HO_5.out⟩, ⟨oS HO_6.out⟩, ⟨oR HO_29.out⟩, ⟨oR HO_5.out⟩, ⟨kB BK149.out⟩, ⟨bB1 HB.out GE149.out⟩⟩
  clear H'
  try clear hx1
  try clear hx15
  try clear hx156_0
  obtain ⟨x6_2, x38_2, rfl, HA, HK2, HO_5, HO_6, HO_29, HO_36, BK149, HB⟩ := hrel
  cases gk with
  | zero => exact absurd HA.out (by simp [d_Footprint.l1])
  | succ k2 =>
   have H := HA.out; clear HA
   simp only [d_Footprint.l1] at H
   by_cases c29 : x38_2 < (t150.length : Int)
   rotate_left
   ·
    rw [if_neg c29] at H
    have c29b0 := decide_eq_false c29; clear c29
    have H' := aM H
    clear H
    go_wp2
    go_roundg k2
    case measure => have := HK1.out; have := HK2.out; omega
    case rel => exact ⟨(x6_2), (wrap64 (x31_1 + 1)), eT, H', ⟨by have := HK1.out; have := HK2.out; omega⟩, ⟨oR HO_5.out⟩, ⟨oS HO_6.out⟩, ⟨oR HO_29.out⟩, ⟨kB BK149.out⟩, ⟨bB1 HB.out GE149.out⟩⟩
   rw [if_pos c29] at H; have c29b0 := decide_eq_true c29; clear c29
   obtain ⟨c30, H⟩ := iP H; have c30b0 := decide_eq_true c30; clear c30
   obtain ⟨c31, H⟩ := iP H; have c31b0 := decide_eq_true c31; clear c31
   obtain ⟨c32, H⟩ := iP H; have c32b0 := decide_eq_true c32; clear c32
   obtain ⟨c33, H⟩ := iP H; have c33b0 := decide_eq_true c33; clear c33; obtain ⟨t159, A34, H⟩ := iB H; (try dsimp only at H)
   obtain ⟨c35, H⟩ := iP H; have LMc35 := aM c35; clear c35
   obtain ⟨y160, hy160⟩ : ∃ y_ : List Int, y_ = ((rd_L5 x6_2 x31_1) ++ [t159]) := ⟨_, rfl⟩
   replace H : (d_Footprint.l1 k2 l0 t150 (x6_2.set (x31_1 : Int).toNat y160) x31_1 (rdOf ByteArray.empty t150 x31_1) t150 (t150.length : Int) x31_1 t150 (t150.length : Int) (wrap64 (x38_2 + 1))) = some (r1, r2) := yT hy160 H
   have Ny160 := aM hy160; clear hy160
   obtain ⟨y163, hy163⟩ : ∃ y_ : List (List Int), y_ = (x6_2.set (x31_1 : Int).toNat y160) := ⟨_, rfl⟩
   replace H : (d_Footprint.l1 k2 l0 t150 y163 x31_1 (rdOf ByteArray.empty t150 x31_1) t150 (t150.length : Int) x31_1 t150 (t150.length : Int) (wrap64 (x38_2 + 1))) = some (r1, r2) := yT hy163 H
   have Ny163 := aM hy163; clear hy163
   have H' := aM H
   clear H; have p157 : 0 ≤ (x38_2 : Int) := dT; have q157 : x38_2 < (t150.length : Int) := dT
   try (obtain ⟨Aoz157, coz157, eoz157⟩ := Kd.R_slice HO_36.out; subst eoz157)
   obtain ⟨ad157, e157, hx157_0⟩ := Kd.at_string (Kd.R_reads' HO_36.out).2.2 x38_2 p157 q157; obtain rfl : ad156 = ad157 := (by injection e157); replace p157 := eq_true p157; replace q157 := eq_true q157
   try go_wp2
   replace HO_5 := aM (Kd.R_drew HO_5.out); replace HO_6 := aM (Kd.S_drew HO_6.out); replace HO_29 := aM (Kd.R_drew HO_29.out); replace HO_36 := aM (Kd.R_drew HO_36.out); replace BK149 := aM (blk_drew BK149.out); replace HB := aM (below_drew1 HB.out); obtain ⟨Ao38, co38, eo38⟩ := Kd.S_slice HO_6.out
   (first | subst eo38 | (injection eo38 with f1_ f2_ f3_; have f4_ := f1_.symm; have f5_ := f3_.symm; clear f1_ f2_ f3_; subst f4_; subst f5_))
   have p158 : 0 ≤ (x31_1 : Int) := dT; have q158 : x31_1 < (x6_2.length : Int) := dT; obtain ⟨ad158, A158_0, c158_0, e158, hx158_0, hl158_0, hi158_0⟩ := at_L5 (Kd.S_reads' HO_6.out).2.2 x31_1 p158 q158; cases e158; obtain ⟨ce158, hce158, hMe158, hcc158⟩ := Kd.S_get HO_6.out [] x31_1 p158 (by first | exact q158 | exact dT | (have e_ := (Kd.S_reads' HO_6.out).1; omega)); obtain ⟨ve158_0, rfl, ge158_0⟩ := hMe158; have hv158_0 := hcc158 0 _ rfl; rw [Nat.add_zero, show ((Kd.slice 3 (Kd.int .i64))).sz = 1 from rfl, Nat.mul_one] at hv158_0; replace hv158_0 := Option.some.inj (hv158_0.symm.trans hx158_0); rw [hv158_0] at ge158_0; have HL158_0 := aM (show Kd.R (Kd.int .i64) 3 _ _ _ _ (rd_L5 x6_2 x31_1) from ge158_0); clear hv158_0 ge158_0; have HX158_0 := aM hx158_0; clear hcc158 hce158; have HR158_0 := aM hi158_0; have HC158_0 := aM hl158_0; clear hi158_0 hl158_0; replace p158 := eq_true p158; replace q158 := eq_true q158
   refine start_ (n := 14) (S := fun w' => w'.cell? (ad158.add (x31_1).toNat) = some (.slice A158_0 (rd_L5 x6_2 x31_1).length c158_0)) (ds := [13]) #[false, false, false, false, false, false, false, false, false, false, false, false, false, false] (by kernel_rfl) rfl rfl (hx158_0) (fun hHeld => ?_); refine with_tabW d_Footprint.tab16 d_Footprint.bits16 (fun HT_ HW_ => ?_)
   generalize wr.drew = w37 at HO_5 HO_6 HO_29 HO_36 BK149 HB HL158_0 HR158_0 HX158_0 hx158_0 hHeld ⊢
   refine pU 0 42 (any_of HT_.out (by kernel_rfl)) ?_
   refine pU 1 43 (any_of HT_.out (by kernel_rfl)) ?_
   refine pU 2 44 (any_of HT_.out (by kernel_rfl)) ?_
   refine pU 3 45 (any_of HT_.out (by kernel_rfl)) ?_
   refine pU 4 46 (any_of HT_.out (by kernel_rfl)) ?_
   refine pU 6 48 (any_of HT_.out (by kernel_rfl)) ?_
   refine pU 7 49 (any_of HT_.out (by kernel_rfl)) ?_
   refine pU 8 50 (any_of HT_.out (by kernel_rfl)) ?_
   refine take_ (i := 5) (N := some 47) (v := ?_) (a' := ?_) #[true, true, true, true, true, true, true, true, true, false, false, false, false, false] rfl rfl (take_ofW HT_.out HW_.out (by kernel_rfl)) (fun _ _ _ h => h) (Or.inl ⟨by rfl, ?_⟩) hHeld ?_ ?_
   rotate_left
   ·
    intro w' s0
    go_simp
    with_reducible rfl
   rotate_left
   ·
    simp only [Act.put, List.setIfInBounds_toArray, List.set_cons_zero, List.set_cons_succ, i64_w, i32_w]
    rfl
   refine one_ (i := 9) (N := some 51) #[true, true, true, true, true, true, true, true, true, true, false, false, false, false] rfl rfl (one_of HT_.out (by kernel_rfl)) (by decide) (fun K hK => ?_)
   refine goes_ Tryd.func43 (by kernel_rfl) rfl #[.slice A0 l0.length c0, .string (rdOf ByteArray.empty t150 x31_1), .string (rdOf ByteArray.empty t150 x38_2)] (by rfl) rfl rfl mT ?_
   with_reducible refine (e_Relation.calls k2 _ _ l0 (rdOf ByteArray.empty t150 x31_1) (rdOf ByteArray.empty t150 x38_2) t159 _ ?side1 ?side2 A34.out).mono ?_
   (case side1 => exact cB HR0.out HB.out)
   (case side2 => exact HC0.out)
   rintro e w' ⟨rfl, ⟨nd, rfl⟩⟩
   refine ⟨_, rfl, ?_⟩
   obtain ⟨go39, co39, eo39, gb39, gl39, cl39, HG39⟩ := Kd.S_form HO_6.out (by have h_ : (x31_1 : Int) < ((x6_2.length : Int) : Int) := dT; have h2_ : 0 ≤ (x31_1 : Int) := (dT); omega)
   (first | cases eo39 | (injection eo39 with ea_ en_ ec_; (first | subst ea_ | (injection ea_ with ea_; subst ea_)); subst ec_; clear en_))
   have GB39 := aM gb39; have GG39 := aM HG39; clear gb39 gl39 HG39
   (first | simp only [add_plain] at hx158_0 | skip)
   obtain ⟨oki39, ce39, hcl39, hM39, hcc39, _, _, hH39⟩ := Kd.S_elem HO_6.out [] (x31_1 : Int) (dT) (by have h_ : (x31_1 : Int) < ((x6_2.length : Int) : Int) := dT; first | exact h_ | (have e_ := (Kd.S_reads' HO_6.out).1; omega) | simpa using h_); obtain ⟨ve39_0, rfl, ge39_0⟩ := hM39; have hv39 := hcc39 0 _ rfl; have hX39 := HX158_0.out
   (try simp only [add_plain] at hX39)
   (try simp only [Nat.add_zero] at hv39)
   (try rw [show ((Kd.slice 3 (Kd.int .i64))).sz = 1 from rfl, Nat.mul_one] at hv39)
   replace hv39 := Option.some.inj (hv39.symm.trans hX39); subst hv39; clear hX39 hcc39 hcl39; have UU39 := aM (show Kd.R (Kd.int .i64) 3 _ w.heap.size oki39 (.slice A158_0 (rd_L5 x6_2 x31_1).length c158_0) (rd_L5 x6_2 x31_1) from ge39_0); have HH39 := aM hH39; have HN39 := aM (Kd.S_reads' HO_6.out).1; clear hH39 ge39_0
   refine hK.out _ _ (hHeld) (fun hHeld => ?_)
   clear hK K
   refine nU 51 ?_
   refine one_ (i := 10) (N := some 52) #[true, true, true, true, true, true, true, true, true, true, true, false, false, false] rfl rfl (one_of HT_.out (by kernel_rfl)) (by decide) (fun K hK => ?_)
   refine value_ (w1 := ?_) (v := ?_) (by rfl) rfl ?_ ?_
   rotate_left 2
   ·
    go_simp
    constructor
    ·
     rfl
    ·
     rfl
   refine hK.out _ _ ((World.cell?_alloc_lt _ _ _ (World.block_lt_of_cell? _ _ (hHeld))).trans (hHeld)) (fun hHeld => ?_)
   clear hK K
   refine nU 52 ?_
   refine one_ (i := 11) (N := some 53) #[true, true, true, true, true, true, true, true, true, true, true, true, false, false] rfl rfl (one_of HT_.out (by kernel_rfl)) (by decide) (fun K hK => ?_)
   refine Kd.R_append_step (Kd.int .i64) (w0 := w) w.heap.size (by rfl) (.tmp 47) (.tmp 52) 36 3 (.int .i64 0) 8 rfl Tryd.underlying36 info3 rfl (by decide) (by omega) (.slice A158_0 (rd_L5 x6_2 x31_1).length c158_0) (rd_L5 x6_2 x31_1) t159 [.int .i64 t159] (fun k_ => oki39 k_ ∨ ((fun _ => True)) k_ ∧ w37.heap.size ≤ k_) (fun _ => False) rfl rfl ?aP (fun _ hk => hk.elim) ?aF ?aO ?aB ?aS ?aL ?_
   (case aP => exact rfl)
   (case aB => exact (bB1 HB.out GE149.out))
   (case aF => exact (fun k_ hk => .inr ⟨trivial, hk⟩))
   (case aO => exact (by refine oR ?_; exact Kd.R_mono UU39.out (fun _ hk => .inl hk)))
   (case aS => exact (below_size (bB1 HB.out GE149.out)))
   (case aL => have := LMc35.out; omega)
   intro v161 w40 ho hb hg hat
   (first | have HS0_ := cell_grown hg (hHeld) (by first | (rw [add_block]; exact (fun e_ => ((HL158_0.out.1 _ e_.symm).2) rfl)) | (show some (Addr.add _ _).block ≠ _; rw [add_block]; exact (fun e_ => ((HL158_0.out.1 _ e_.symm).2) rfl)) | exact (fun e_ => ((HL158_0.out.1 _ e_.symm).2) rfl)) | have HS0_ := cell_grown hg (cell_unalloc (hHeld) (by first | (rw [add_block]; exact Kd.S_lt HO_6.out _ rfl) | (show (Addr.add _ _).block < _; rw [add_block]; exact Kd.S_lt HO_6.out _ rfl) | exact Kd.S_lt HO_6.out _ rfl)) (by first | (rw [add_block]; exact (fun e_ => ((HL158_0.out.1 _ e_.symm).2) rfl)) | (show some (Addr.add _ _).block ≠ _; rw [add_block]; exact (fun e_ => ((HL158_0.out.1 _ e_.symm).2) rfl)) | exact (fun e_ => ((HL158_0.out.1 _ e_.symm).2) rfl)))
   rw [← Ny160.out] at ho; replace HO_5 := aM (Kd.R_over' (v := (.slice A158_0 (rd_L5 x6_2 x31_1).length c158_0)) (oR HO_5.out) (Kd.R_typed (oR HL158_0.out)) (by decide) hg); replace HO_29 := aM (Kd.R_over' (v := (.slice A158_0 (rd_L5 x6_2 x31_1).length c158_0)) (oR HO_29.out) (Kd.R_typed (oR HL158_0.out)) (by decide) hg); replace HO_36 := aM (Kd.R_over' (v := (.slice A158_0 (rd_L5 x6_2 x31_1).length c158_0)) (oR HO_36.out) (Kd.R_typed (oR HL158_0.out)) (by decide) hg); replace BK149 := aM (blk_grown (g := gb149) (o := .cells #[.int .i64 t147, .int .i64 t148] 66 (0, 0)) (kB BK149.out) hg (Kd.R_ne HL158_0.out BK149.out (by decide))); replace HB := aM (hb); replace HH39 := aM (Kd.H_grown (Kd.H_widen (by repeat (first | exact HH39.out | refine Kd.H_alloc ?_ _ | refine Kd.H_drewN ?_ _ | refine Kd.H_drew ?_))) hg (fun k_ e_ => .inl (UU39.out.1 k_ e_))); have HO162 := aM (ho); clear HO_6 UU39 HL158_0; clear ho hb hg hat; have p36 : 0 ≤ (x31_1 : Int) := dT; have q36 : (x31_1 : Int) < ((x6_2.length : Int) : Int) := dT; replace p36 := eq_true p36; replace q36 := eq_true q36; obtain ⟨Ao43, co43, eo43⟩ := Kd.R_slice HO162.out
   (first | subst eo43 | (injection eo43 with f1_ f2_ f3_; have f4_ := f1_.symm; have f5_ := f3_.symm; clear f1_ f2_ f3_; subst f4_; subst f5_))
   obtain ⟨_, _, hraw41, _, _, hcc41, _⟩ := Kd.H_raw HH39.out (dT) (by have h_ : (x31_1 : Int) < ((x6_2.length : Int) : Int) := dT; first | exact h_ | (have e_ := (HN39.out); omega) | simpa using h_); obtain ⟨_, hfr41⟩ := Kd.H_at HH39.out (dT) (by have h_ : (x31_1 : Int) < ((x6_2.length : Int) : Int) := dT; first | exact h_ | (have e_ := (HN39.out); omega) | simpa using h_); have hx41_0 := hcc41 0 _ rfl; have hf41_0 := hfr41 0
   (try simp only [Nat.add_zero] at hx41_0 hf41_0)
   (try rw [show ((Kd.slice 3 (Kd.int .i64))).sz = 1 from rfl, Nat.mul_one] at hx41_0)
   (try rw [show ((Kd.slice 3 (Kd.int .i64))).sz = 1 from rfl, Nat.mul_one] at hf41_0)
   have HP41 := Kd.S_seg0 HH39.out (dT) (by have h_ : (x31_1 : Int) < ((x6_2.length : Int) : Int) := dT; first | exact h_ | (have e_ := (HN39.out); omega) | simpa using h_) (seg := [.slice Ao43 y160.length co43]) (j := 0) (show 1 ≤ 1 from by decide) (x' := y160) (Kd.M_row HO162.out) (fun _ hk => hk)
   (try simp only [show ((Kd.slice 3 (Kd.int .i64))).sz = 1 from rfl, Nat.mul_one, Nat.add_zero] at HP41)
   clear hcc41 hfr41; have HNB149_go39 := aM (show gb149 ≠ go39 from by have h_ := Kd.R_ne hraw41 BK149.out (by decide); intro e_; exact h_ (by rw [e_]; rfl)); have HS41 := HP41.1; rw [← Ny163.out] at HS41; have HQ41 := aM HS41; obtain ⟨_, hgg41⟩ := Kd.R_typed hraw41 go39 rfl; have GG41_ := aM hgg41; clear HP41 HS41 hgg41
   refine hK.out _ _ (HS0_) (fun hHeld => ?_)
   clear hK K
   refine nU 53 ?_
   refine pU 12 54 (any_of HT_.out (by kernel_rfl)) ?_
   refine last_ (i := 13) (N := none) #[true, true, true, true, true, true, true, true, true, true, true, true, true, true] rfl rfl (one_of HT_.out (by kernel_rfl)) (by decide) (fun K hK => ?_)
   refine skip_ (w1 := ?_) (by rfl) rfl ?_ ?_
   rotate_left
   ·
    go_simp
    rfl
   refine hK.out _ _ ?_
   clear hK K
   refine done_ (done_of HT_.out (by kernel_rfl)) ?_
   try go_wp2
   go_roundg k2
   case measure => have := HK1.out; have := HK2.out; omega
   case rel => exact ⟨(y163), (wrap64 (x38_2 + 1)), eT, H', ⟨by have := HK1.out; have := HK2.out; omega⟩, ⟨by refine oR ?_; exact tT HO_5.out GG41_.out⟩, ⟨oS HQ41.out⟩, ⟨by refine oR ?_; exact tT HO_29.out GG41_.out⟩, ⟨by refine oR ?_; exact tT HO_36.out GG41_.out⟩, ⟨bF BK149.out HNB149_go39.out⟩, ⟨by repeat (first | (with_reducible first | exact HB.out | apply below_alloc | apply pw_below_drewN | apply below_drew1 | refine below_set ?_ GB39.out | refine below_set ?_ GE149.out) | exact HB.out)⟩⟩
/-! ### d_has: function 29 -/
def d_has.f (a0 : Int) (a1 : Int) : Option (Bool) := if 0 ≤ (IntKind.u64.wrap (a1)) then (some ((Go.bits .and .u64 (shr .u64 a0 (IntKind.u64.wrap (a1))) 1) == 1)) else (none)
set_option maxHeartbeats 8000000 in
set_option maxRecDepth 100000 in
theorem d_has.calls (a0 : Int) (a1 : Int) (r : Bool) (w : World) (h : d_has.f a0 a1 = some r) :
  Calls Tryd.prog 29 #[.int .u64 a0, .int .i64 a1] w fun e w' => e = .returned (.bool r) ∧ Drawn0 w w' := by
 have H : (if 0 ≤ (IntKind.u64.wrap (a1)) then (some ((Go.bits .and .u64 (shr .u64 a0 (IntKind.u64.wrap (a1))) 1) == 1)) else (none)) = some r := h
 clear h
 obtain ⟨ji3, hji3⟩ : ∃ j_ : Int, (IntKind.u64.wrap (a1)) = j_ := ⟨_, rfl⟩
 replace H : (if 0 ≤ (ji3) then (some ((Go.bits .and .u64 (shr .u64 a0 (ji3)) 1) == 1)) else (none)) = some r := by first | (rw [hji3] at H; exact H) | (simp only [hji3] at H ⊢; exact H)
 by_cases c4 : 0 ≤ (ji3)
 rotate_left
 ·
  rw [if_neg c4] at H
  exact absurd H (by simp)


 rw [if_pos c4] at H; have c4b0 := eq_true c4; have c4b1 := decide_eq_true c4; clear c4
 obtain ⟨ji5, hji5⟩ : ∃ j_ : Int, (shr .u64 a0 (ji3)) = j_ := ⟨_, rfl⟩
 replace H : (some ((Go.bits .and .u64 (ji5) 1) == 1)) = some r := by first | (rw [hji5] at H; exact H) | (simp only [hji5] at H ⊢; exact H)
 have hji5_ : (a0 / 2 ^ min (ji3).toNat 64) = ji5 := hji5; have hji5z : (ji3) ≤ 64 → (a0 / 2 ^ (ji3).toNat) = ji5 := shr_small hji5
 obtain rfl := Option.some.inj H
 go_enter Tryd.func29, Tryd.ntmps29
 go_wp2
 go_ret
 exact ⟨by first | rfl | (simp; done) | (simp only [← hji3, ← hji5] <;> (first | rfl | simp)) | (simp [*]; done), by repeat (first | exact Drawn0.refl _ | apply Drawn0.step)⟩
/-! ### d_all: function 68 -/
def d_all.l0 : Nat → List (List Int) → Int → Int → Int → Int → Int → Option (Bool)
 | 0, _, _, _, _, _, _ => none
 | k + 1, x0, x1, x2, x3, x11, x12 => if x12 < x11 then ((d_has.f x2 x12).bind fun t164 => (if t164 = true then (if 0 ≤ x1 then (if x1 < (x0.length : Int) then (if 0 ≤ x12 then (if x12 < ((rd_L5 x0 x1).length : Int) then (if (rd (rd_L5 x0 x1) x12) = x3 then (d_all.l0 k x0 x1 x2 x3 x11 (wrap64 (x12 + 1))) else (some false)) else (none)) else (none)) else (none)) else (none)) else (d_all.l0 k x0 x1 x2 x3 x11 (wrap64 (x12 + 1))))) else (some true)
def d_all.f (k : Nat) (l0 : List (List Int)) (a1 : Int) (a2 : Int) (a3 : Int) : Option (Bool) := d_all.l0 k l0 a1 a2 a3 (l0.length : Int) 0
theorem d_all.mono_l : ∀ k, (∀ y0 y1 y2 y3 y4 y5, LeO (d_all.l0 k y0 y1 y2 y3 y4 y5) (d_all.l0 (k + 1) y0 y1 y2 y3 y4 y5))
 | 0 => fun _ _ _ _ _ _ r h => by simp [d_all.l0] at h
 | k + 1 => by
  have ih0 := d_all.mono_l k
  ·
   intro y0 y1 y2 y3 y4 y5
   unfold d_all.l0
   repeat' first
   | (with_reducible first | apply ih0 | exact LeO.refl _ | exact LeO.none _ | refine LeO.ite ?_ ?_ | refine LeO.bind ?_ (fun _ => ?_))
theorem d_all.mono : ∀ a0 a1 a2 a3 k, LeO (d_all.f k a0 a1 a2 a3) (d_all.f (k + 1) a0 a1 a2 a3) := by
 intro a0 a1 a2 a3 k
 have ih0 := d_all.mono_l k
 unfold d_all.f
 repeat' first
   | (with_reducible first | apply ih0 | exact LeO.refl _ | exact LeO.none _ | refine LeO.ite ?_ ?_ | refine LeO.bind ?_ (fun _ => ?_))
set_option maxHeartbeats 8000000 in
set_option maxRecDepth 100000 in
theorem d_all.calls (k : Nat) (A0 : Option Addr) (c0 : Nat) (l0 : List (List Int)) (a1 : Int) (a2 : Int) (a3 : Int) (r : Bool) (w : World) (hr0 : Kd.C (Kd.slice 3 (Kd.int .i64)) w A0 l0.length l0) (hc0 : l0.length ≤ c0) (h : d_all.f k l0 a1 a2 a3 = some r) :
  Calls Tryd.prog 68 #[.slice A0 l0.length c0, .int .i64 a1, .int .u64 a2, .int .i64 a3] w fun e w' => e = .returned (.bool r) ∧ Drawn0 w w' := by
 have HR0 := aM hr0; have HC0 := aM hc0; clear hr0 hc0; have H : (d_all.l0 k l0 a1 a2 a3 (l0.length : Int) 0) = some r := h; clear h
 have H' := aM H
 clear H
 go_enter Tryd.func68, Tryd.ntmps68
 go_wp2
 go_loopg [12] k (fun kq v12 w' => ∃ (x12_1 : Int), v12 = .int .i64 x12_1 ∧ Aside0 (d_all.l0 kq l0 a1 a2 a3 (l0.length : Int) x12_1 = some r) ∧ Aside0 (kq ≤ k) ∧ Drawn0 w w')
 case atStart => exact ⟨(0), eT, H', ⟨Nat.le_refl _⟩, by repeat (first | exact Drawn0.refl _ | apply Drawn0.step)⟩
 clear H'
 obtain ⟨x12_1, rfl, HA, HK1, ⟨m1, rfl⟩⟩ := hrel
 cases gk with
 | zero => exact absurd HA.out (by simp [d_all.l0])
 | succ k1 =>
  have H := HA.out; clear HA
  simp only [d_all.l0] at H
  by_cases c5 : x12_1 < (l0.length : Int)
  rotate_left
  ·
   rw [if_neg c5] at H
   have c5b0 := decide_eq_false c5; clear c5
   obtain rfl := Option.some.inj H
   go_wp2
   go_ret
   exact ⟨by first | rfl | (simp; done) | (simp [*]; done), by repeat (first | exact Drawn0.refl _ | apply Drawn0.step)⟩


  rw [if_pos c5] at H; have c5b0 := decide_eq_true c5; clear c5; obtain ⟨t164, A6, H⟩ := iB H; (try dsimp only at H)
  by_cases c7 : t164 = true
  rotate_left
  ·
   replace c7 := Bool.eq_false_iff.mpr c7
   subst c7
   have H1 : (d_all.l0 k1 l0 a1 a2 a3 (l0.length : Int) (wrap64 (x12_1 + 1))) = some r := by rw [if_neg (show ¬ (false = true) by decide)] at H; exact H
   clear H; have H := H1; clear H1
   have H' := aM H
   clear H
   go_wp2_with (first | ((with_reducible refine gate_callee (f := 29) rfl ?_); refine gM (some 17) Tryd.func29 #[.int .u64 a2, .int .i64 x12_1] ?_; (with_reducible refine (d_has.calls a2 x12_1 false _ A6.out).mono ?_); rintro e w' ⟨rfl, ⟨nd, rfl⟩⟩; refine ⟨_, rfl, ?_⟩))
   go_roundg k1
   case measure => have := HK1.out; omega
   case rel => exact ⟨(wrap64 (x12_1 + 1)), eT, H', ⟨by have := HK1.out; omega⟩, by repeat (first | exact Drawn0.refl _ | apply Drawn0.step)⟩
  subst c7
  have H1 : (if 0 ≤ a1 then (if a1 < (l0.length : Int) then (if 0 ≤ x12_1 then (if x12_1 < ((rd_L5 l0 a1).length : Int) then (if (rd (rd_L5 l0 a1) x12_1) = a3 then (d_all.l0 k1 l0 a1 a2 a3 (l0.length : Int) (wrap64 (x12_1 + 1))) else (some false)) else (none)) else (none)) else (none)) else (none)) = some r := by rw [if_pos rfl] at H; exact H
  clear H; have H := H1; clear H1
  obtain ⟨c8, H⟩ := iP H; have c8b0 := decide_eq_true c8; clear c8
  obtain ⟨c9, H⟩ := iP H; have c9b0 := decide_eq_true c9; clear c9
  obtain ⟨c10, H⟩ := iP H; have c10b0 := decide_eq_true c10; clear c10
  obtain ⟨c11, H⟩ := iP H; have c11b0 := decide_eq_true c11; clear c11
  by_cases c12 : (rd (rd_L5 l0 a1) x12_1) = a3
  rotate_left
  ·
   rw [if_neg c12] at H
   have c12b0 : ((rd (rd_L5 l0 a1) x12_1) == a3) = false := beq_eq_false_iff_ne.mpr c12; have c12b1 : ((rd (rd_L5 l0 a1) x12_1) != a3) = true := bne_iff_ne.mpr c12
   obtain rfl := Option.some.inj H
   go_wp2_with (first | ((with_reducible refine gate_callee (f := 29) rfl ?_); refine gM (some 17) Tryd.func29 #[.int .u64 a2, .int .i64 x12_1] ?_; (with_reducible refine (d_has.calls a2 x12_1 true _ A6.out).mono ?_); rintro e w' ⟨rfl, ⟨nd, rfl⟩⟩; refine ⟨_, rfl, ?_⟩; obtain ⟨p165, q165, ad165, A165_0, c165_0, e165, hx165_0, hl165_0, hi165_0⟩ := aT (at_L5 HR0.out a1); cases e165; have HR165_0 := aM hi165_0; have HC165_0 := aM hl165_0; clear hi165_0 hl165_0; have p166 : 0 ≤ (x12_1 : Int) := dT; have q166 : x12_1 < ((rd_L5 l0 a1).length : Int) := dT; obtain ⟨ad166, e166, hx166_0⟩ := Kd.at_int HR165_0.out x12_1 p166 q166; cases e166; replace p166 := eq_true p166; replace q166 := eq_true q166))
   go_ret
   exact ⟨by first | rfl | (simp; done) | (simp [*]; done), by repeat (first | exact Drawn0.refl _ | apply Drawn0.step)⟩
  rw [if_pos c12] at H; have c12b0 : ((rd (rd_L5 l0 a1) x12_1) == a3) = true := beq_iff_eq.mpr c12; have c12b1 : ((rd (rd_L5 l0 a1) x12_1) != a3) = false := bne_eq_false_iff_eq.mpr c12; clear c12
  have H' := aM H
  clear H
  go_wp2_with (first | ((with_reducible refine gate_callee (f := 29) rfl ?_); refine gM (some 17) Tryd.func29 #[.int .u64 a2, .int .i64 x12_1] ?_; (with_reducible refine (d_has.calls a2 x12_1 true _ A6.out).mono ?_); rintro e w' ⟨rfl, ⟨nd, rfl⟩⟩; refine ⟨_, rfl, ?_⟩; obtain ⟨p165, q165, ad165, A165_0, c165_0, e165, hx165_0, hl165_0, hi165_0⟩ := aT (at_L5 HR0.out a1); cases e165; have HR165_0 := aM hi165_0; have HC165_0 := aM hl165_0; clear hi165_0 hl165_0; have p166 : 0 ≤ (x12_1 : Int) := dT; have q166 : x12_1 < ((rd_L5 l0 a1).length : Int) := dT; obtain ⟨ad166, e166, hx166_0⟩ := Kd.at_int HR165_0.out x12_1 p166 q166; cases e166; replace p166 := eq_true p166; replace q166 := eq_true q166))
  go_roundg k1
  case measure => have := HK1.out; omega
  case rel => exact ⟨(wrap64 (x12_1 + 1)), eT, H', ⟨by have := HK1.out; omega⟩, by repeat (first | exact Drawn0.refl _ | apply Drawn0.step)⟩


section
-- STUBBED 63
/-! ### d_fits: function 63: by hand -/
def d_fits0.f (k : Nat) (l0 : List (List Int)) (a1_0 : Int) (a1_1 : Int) (a2 : Int) : Option (Bool) := (if 0 ≤ a2 then (if a2 < (l0.length : Int) then (if a2 < ((rd_L5 l0 a2).length : Int) then (if (rd (rd_L5 l0 a2) a2) = 0 then ((d_all.f k l0 a2 a1_0 0).bind fun t174 => (if t174 = true then ((d_all.f k l0 a2 a1_1 1).bind fun t175 => (some t175)) else (some false))) else (some false)) else (none)) else (none)) else (none))
theorem d_fits0.mono : ∀ a0 a1 a2 a3 k, LeO (d_fits0.f k a0 a1 a2 a3) (d_fits0.f (k + 1) a0 a1 a2 a3) := by
 intro a0 a1 a2 a3 k
 unfold d_fits0.f
 repeat' first
   | (with_reducible apply d_all.mono)
   | (with_reducible exact LeO.refl _)
   | (with_reducible exact LeO.none _)
   | (with_reducible refine LeO.ite ?_ ?_)
   | (with_reducible refine LeO.bind ?_ (fun _ => ?_))
   | apply d_all.mono
   | exact LeO.none _
   | refine LeO.ite ?_ ?_
   | refine LeO.bind ?_ (fun _ => ?_)
set_option maxHeartbeats 8000000 in
set_option maxRecDepth 100000 in
theorem d_fits0.calls (k : Nat) (A0 : Option Addr) (c0 : Nat) (l0 : List (List Int)) (a1_0 : Int) (a1_1 : Int) (a2 : Int) (r : Bool) (w : World) (hr0 : Kd.C (Kd.slice 3 (Kd.int .i64)) w A0 l0.length l0) (hc0 : l0.length ≤ c0) (h : d_fits0.f k l0 a1_0 a1_1 a2 = some r) :
  Calls Tryd.prog 63 #[.slice A0 l0.length c0, .agg #[.int .u64 a1_0, .int .u64 a1_1], .int .i64 a2, .int .i64 0] w fun e w' => e = .returned (.bool r) ∧ Below w.heap.size w w' := by
 have hu41 := Tryd.underlying76
 have hu37 := Tryd.underlying56
 have HR0 := aM hr0
 have HC0 := aM hc0
 clear hr0 hc0
 have HB := aM (Below.refl w.heap.size w)
 have H : ((if 0 ≤ a2 then (if a2 < (l0.length : Int) then (if a2 < ((rd_L5 l0 a2).length : Int) then (if (rd (rd_L5 l0 a2) a2) = 0 then ((d_all.f k l0 a2 a1_0 0).bind fun t174 => (if t174 = true then ((d_all.f k l0 a2 a1_1 1).bind fun t175 => (some t175)) else (some false))) else (some false)) else (none)) else (none)) else (none))) = some r := h
 clear h
 by_cases c18 : 0 ≤ a2
 ·rw [if_pos c18] at H
  have c18b0 : decide (0 ≤ a2) = true := decide_eq_true c18
  clear c18
  by_cases c19 : a2 < (l0.length : Int)
  ·rw [if_pos c19] at H
   have c19b0 : decide (a2 < (l0.length : Int)) = true := decide_eq_true c19
   clear c19
   by_cases c20 : a2 < ((rd_L5 l0 a2).length : Int)
   ·rw [if_pos c20] at H
    have c20b0 : decide (a2 < ((rd_L5 l0 a2).length : Int)) = true := decide_eq_true c20
    clear c20
    by_cases c21 : (rd (rd_L5 l0 a2) a2) = 0
    ·rw [if_pos c21] at H
     have c21b0 : ((rd (rd_L5 l0 a2) a2) == 0) = true := beq_iff_eq.mpr c21
     have c21b1 : ((rd (rd_L5 l0 a2) a2) != 0) = false := bne_eq_false_iff_eq.mpr c21
     clear c21
     replace H := Option.bind_eq_some_iff.mp H
     obtain ⟨t174, A220, H⟩ := H
     replace H : (if t174 = true then ((d_all.f k l0 a2 a1_1 1).bind fun t175 => (some t175)) else (some false)) = some r := H
     have A22 := aM A220
     clear A220
     by_cases c23 : t174 = true
     ·subst c23
      have H1 : ((d_all.f k l0 a2 a1_1 1).bind fun t175 => (some t175)) = some r := by rw [if_pos rfl] at H; exact H
      clear H
      have H := H1
      clear H1
      replace H := Option.bind_eq_some_iff.mp H
      obtain ⟨t175, A240, H⟩ := H
      replace H : (some t175) = some r := H
      have A24 := aM A240
      clear A240
      obtain rfl := Option.some.inj H
      go_enter Tryd.func63, Tryd.ntmps63
      go_wp2_with (first | ((with_reducible refine gate_dst (N := 5) rfl ?_); refine bX 5 (cs := #[.int .u64 a1_0, .int .u64 a1_1]) (t := 76) ?_; intro gb167 hg w25 hbox hb; have BK167 := aM (hbox); have GW167 := aM (gE hg (below_size (bB HB.out))); have GE167 := GW167; replace HB := aM (below_step (bB HB.out) hb); clear hb hbox hg; obtain ⟨p172, q172, ad172, A172_0, c172_0, e172, hx172_0, hl172_0, hi172_0⟩ := aT (at_L5 HR0.out a2); cases e172; replace hx172_0 := (HB.out.cell (World.block_lt_of_cell? w _ hx172_0)).trans hx172_0; have HR172_0 := aM hi172_0; have HC172_0 := aM hl172_0; clear hi172_0 hl172_0; obtain ⟨p173, q173, ad173, e173, hx173_0⟩ := aT (Kd.at_int HR172_0.out a2); cases e173; replace hx173_0 := (HB.out.cell (World.block_lt_of_cell? w _ hx173_0)).trans hx173_0; obtain ⟨hcz26_0, hcz26_1, hfz26_0, hfz26_1⟩ := cd2 BK167.out) | (go_at_call 68; (with_reducible refine (d_all.calls k _ _ l0 a2 a1_0 0 true _ ?side1 ?side2 A22.out).mono ?_); (case side1 => repeat (first | exact (Kd.C_below HR0.out HB.out) | (with_reducible refine Kd.C_alloc ?_ _) | (with_reducible refine Kd.C_drewN ?_ _) | (with_reducible refine Kd.C_drew ?_))); (case side2 => exact HC0.out); rintro e w' ⟨rfl, ⟨nd, rfl⟩⟩) | (go_at_call 68; (with_reducible refine (d_all.calls k _ _ l0 a2 a1_1 1 t175 _ ?side1 ?side2 A24.out).mono ?_); (case side1 => repeat (first | exact (Kd.C_below HR0.out (bB1 HB.out GE167.out)) | (with_reducible refine Kd.C_alloc ?_ _) | (with_reducible refine Kd.C_drewN ?_ _) | (with_reducible refine Kd.C_drew ?_))); (case side2 => exact HC0.out); rintro e w' ⟨rfl, ⟨nd, rfl⟩⟩))
      go_ret
      exact ⟨by first | rfl | (simp [errW_none, errW_some] <;> rfl) | (simp [*, errW_none, errW_some] <;> rfl), bB1 HB.out GE167.out⟩
     ·replace c23 := Bool.eq_false_iff.mpr c23
      subst c23
      have H1 : (some false) = some r := by rw [if_neg (show ¬ (false = true) by decide)] at H; exact H
      clear H
      have H := H1
      clear H1
      obtain rfl := Option.some.inj H
      go_enter Tryd.func63, Tryd.ntmps63
      go_wp2_with (first | ((with_reducible refine gate_dst (N := 5) rfl ?_); refine bX 5 (cs := #[.int .u64 a1_0, .int .u64 a1_1]) (t := 76) ?_; intro gb167 hg w27 hbox hb; have BK167 := aM (hbox); have GW167 := aM (gE hg (below_size (bB HB.out))); have GE167 := GW167; replace HB := aM (below_step (bB HB.out) hb); clear hb hbox hg; obtain ⟨p172, q172, ad172, A172_0, c172_0, e172, hx172_0, hl172_0, hi172_0⟩ := aT (at_L5 HR0.out a2); cases e172; replace hx172_0 := (HB.out.cell (World.block_lt_of_cell? w _ hx172_0)).trans hx172_0; have HR172_0 := aM hi172_0; have HC172_0 := aM hl172_0; clear hi172_0 hl172_0; obtain ⟨p173, q173, ad173, e173, hx173_0⟩ := aT (Kd.at_int HR172_0.out a2); cases e173; replace hx173_0 := (HB.out.cell (World.block_lt_of_cell? w _ hx173_0)).trans hx173_0; obtain ⟨hcz28_0, hcz28_1, hfz28_0, hfz28_1⟩ := cd2 BK167.out) | (go_at_call 68; (with_reducible refine (d_all.calls k _ _ l0 a2 a1_0 0 false _ ?side1 ?side2 A22.out).mono ?_); (case side1 => repeat (first | exact (Kd.C_below HR0.out HB.out) | (with_reducible refine Kd.C_alloc ?_ _) | (with_reducible refine Kd.C_drewN ?_ _) | (with_reducible refine Kd.C_drew ?_))); (case side2 => exact HC0.out); rintro e w' ⟨rfl, ⟨nd, rfl⟩⟩))
      go_ret
      exact ⟨by first | rfl | (simp [errW_none, errW_some] <;> rfl) | (simp [*, errW_none, errW_some] <;> rfl), bB1 HB.out GE167.out⟩
    ·rw [if_neg c21] at H
     have c21b0 : ((rd (rd_L5 l0 a2) a2) == 0) = false := beq_eq_false_iff_ne.mpr c21
     have c21b1 : ((rd (rd_L5 l0 a2) a2) != 0) = true := bne_iff_ne.mpr c21
     obtain rfl := Option.some.inj H
     go_enter Tryd.func63, Tryd.ntmps63
     go_wp2_with (first | ((with_reducible refine gate_dst (N := 5) rfl ?_); refine bX 5 (cs := #[.int .u64 a1_0, .int .u64 a1_1]) (t := 76) ?_; intro gb167 hg w29 hbox hb; have BK167 := aM (hbox); have GW167 := aM (gE hg (below_size (bB HB.out))); have GE167 := GW167; replace HB := aM (below_step (bB HB.out) hb); clear hb hbox hg; obtain ⟨p172, q172, ad172, A172_0, c172_0, e172, hx172_0, hl172_0, hi172_0⟩ := aT (at_L5 HR0.out a2); cases e172; replace hx172_0 := (HB.out.cell (World.block_lt_of_cell? w _ hx172_0)).trans hx172_0; have HR172_0 := aM hi172_0; have HC172_0 := aM hl172_0; clear hi172_0 hl172_0; have p173 : 0 ≤ (a2 : Int) := dT; have q173 : a2 < ((rd_L5 l0 a2).length : Int) := dT; obtain ⟨ad173, e173, hx173_0⟩ := Kd.at_int HR172_0.out a2 p173 q173; cases e173; replace hx173_0 := (HB.out.cell (World.block_lt_of_cell? w _ hx173_0)).trans hx173_0; replace p173 := eq_true p173; replace q173 := eq_true q173))
     go_ret
     exact ⟨by first | rfl | (simp [errW_none, errW_some] <;> rfl) | (simp [*, errW_none, errW_some] <;> rfl), bB1 HB.out GE167.out⟩
   ·rw [if_neg c20] at H
    exact absurd H (by simp)
  ·rw [if_neg c19] at H
   exact absurd H (by simp)
 ·rw [if_neg c18] at H
  exact absurd H (by simp)

def d_fits1.f (k : Nat) (l0 : List (List Int)) (a1_0 : Int) (a1_1 : Int) (a2 : Int) : Option (Bool) := (if 0 ≤ a2 then (if a2 < (l0.length : Int) then (if a2 < ((rd_L5 l0 a2).length : Int) then (if (rd (rd_L5 l0 a2) a2) = 0 then ((d_all.f k l0 a2 a1_1 0).bind fun t170 => (if t170 = true then ((d_all.f k l0 a2 a1_0 2).bind fun t171 => (some t171)) else (some false))) else (some false)) else (none)) else (none)) else (none))
theorem d_fits1.mono : ∀ a0 a1 a2 a3 k, LeO (d_fits1.f k a0 a1 a2 a3) (d_fits1.f (k + 1) a0 a1 a2 a3) := by
 intro a0 a1 a2 a3 k
 unfold d_fits1.f
 repeat' first
   | (with_reducible apply d_all.mono)
   | (with_reducible exact LeO.refl _)
   | (with_reducible exact LeO.none _)
   | (with_reducible refine LeO.ite ?_ ?_)
   | (with_reducible refine LeO.bind ?_ (fun _ => ?_))
   | apply d_all.mono
   | exact LeO.none _
   | refine LeO.ite ?_ ?_
   | refine LeO.bind ?_ (fun _ => ?_)
set_option maxHeartbeats 8000000 in
set_option maxRecDepth 100000 in
theorem d_fits1.calls (k : Nat) (A0 : Option Addr) (c0 : Nat) (l0 : List (List Int)) (a1_0 : Int) (a1_1 : Int) (a2 : Int) (r : Bool) (w : World) (hr0 : Kd.C (Kd.slice 3 (Kd.int .i64)) w A0 l0.length l0) (hc0 : l0.length ≤ c0) (h : d_fits1.f k l0 a1_0 a1_1 a2 = some r) :
  Calls Tryd.prog 63 #[.slice A0 l0.length c0, .agg #[.int .u64 a1_0, .int .u64 a1_1], .int .i64 a2, .int .i64 1] w fun e w' => e = .returned (.bool r) ∧ Below w.heap.size w w' := by
 have hu41 := Tryd.underlying76
 have hu37 := Tryd.underlying56
 have HR0 := aM hr0
 have HC0 := aM hc0
 clear hr0 hc0
 have HB := aM (Below.refl w.heap.size w)
 have H : ((if 0 ≤ a2 then (if a2 < (l0.length : Int) then (if a2 < ((rd_L5 l0 a2).length : Int) then (if (rd (rd_L5 l0 a2) a2) = 0 then ((d_all.f k l0 a2 a1_1 0).bind fun t170 => (if t170 = true then ((d_all.f k l0 a2 a1_0 2).bind fun t171 => (some t171)) else (some false))) else (some false)) else (none)) else (none)) else (none))) = some r := h
 clear h
 by_cases c6 : 0 ≤ a2
 ·rw [if_pos c6] at H
  have c6b0 : decide (0 ≤ a2) = true := decide_eq_true c6
  clear c6
  by_cases c7 : a2 < (l0.length : Int)
  ·rw [if_pos c7] at H
   have c7b0 : decide (a2 < (l0.length : Int)) = true := decide_eq_true c7
   clear c7
   by_cases c8 : a2 < ((rd_L5 l0 a2).length : Int)
   ·rw [if_pos c8] at H
    have c8b0 : decide (a2 < ((rd_L5 l0 a2).length : Int)) = true := decide_eq_true c8
    clear c8
    by_cases c9 : (rd (rd_L5 l0 a2) a2) = 0
    ·rw [if_pos c9] at H
     have c9b0 : ((rd (rd_L5 l0 a2) a2) == 0) = true := beq_iff_eq.mpr c9
     have c9b1 : ((rd (rd_L5 l0 a2) a2) != 0) = false := bne_eq_false_iff_eq.mpr c9
     clear c9
     replace H := Option.bind_eq_some_iff.mp H
     obtain ⟨t170, A100, H⟩ := H
     replace H : (if t170 = true then ((d_all.f k l0 a2 a1_0 2).bind fun t171 => (some t171)) else (some false)) = some r := H
     have A10 := aM A100
     clear A100
     by_cases c11 : t170 = true
     ·subst c11
      have H1 : ((d_all.f k l0 a2 a1_0 2).bind fun t171 => (some t171)) = some r := by rw [if_pos rfl] at H; exact H
      clear H
      have H := H1
      clear H1
      replace H := Option.bind_eq_some_iff.mp H
      obtain ⟨t171, A120, H⟩ := H
      replace H : (some t171) = some r := H
      have A12 := aM A120
      clear A120
      obtain rfl := Option.some.inj H
      go_enter Tryd.func63, Tryd.ntmps63
      go_wp2_with (first | ((with_reducible refine gate_dst (N := 5) rfl ?_); refine bX 5 (cs := #[.int .u64 a1_0, .int .u64 a1_1]) (t := 76) ?_; intro gb167 hg w13 hbox hb; have BK167 := aM (hbox); have GW167 := aM (gE hg (below_size (bB HB.out))); have GE167 := GW167; replace HB := aM (below_step (bB HB.out) hb); clear hb hbox hg; obtain ⟨p168, q168, ad168, A168_0, c168_0, e168, hx168_0, hl168_0, hi168_0⟩ := aT (at_L5 HR0.out a2); cases e168; replace hx168_0 := (HB.out.cell (World.block_lt_of_cell? w _ hx168_0)).trans hx168_0; have HR168_0 := aM hi168_0; have HC168_0 := aM hl168_0; clear hi168_0 hl168_0; obtain ⟨p169, q169, ad169, e169, hx169_0⟩ := aT (Kd.at_int HR168_0.out a2); cases e169; replace hx169_0 := (HB.out.cell (World.block_lt_of_cell? w _ hx169_0)).trans hx169_0; obtain ⟨hcz14_0, hcz14_1, hfz14_0, hfz14_1⟩ := cd2 BK167.out) | (go_at_call 68; (with_reducible refine (d_all.calls k _ _ l0 a2 a1_1 0 true _ ?side1 ?side2 A10.out).mono ?_); (case side1 => repeat (first | exact (Kd.C_below HR0.out HB.out) | (with_reducible refine Kd.C_alloc ?_ _) | (with_reducible refine Kd.C_drewN ?_ _) | (with_reducible refine Kd.C_drew ?_))); (case side2 => exact HC0.out); rintro e w' ⟨rfl, ⟨nd, rfl⟩⟩) | (go_at_call 68; (with_reducible refine (d_all.calls k _ _ l0 a2 a1_0 2 t171 _ ?side1 ?side2 A12.out).mono ?_); (case side1 => repeat (first | exact (Kd.C_below HR0.out (bB1 HB.out GE167.out)) | (with_reducible refine Kd.C_alloc ?_ _) | (with_reducible refine Kd.C_drewN ?_ _) | (with_reducible refine Kd.C_drew ?_))); (case side2 => exact HC0.out); rintro e w' ⟨rfl, ⟨nd, rfl⟩⟩))
      go_ret
      exact ⟨by first | rfl | (simp [errW_none, errW_some] <;> rfl) | (simp [*, errW_none, errW_some] <;> rfl), bB1 HB.out GE167.out⟩
     ·replace c11 := Bool.eq_false_iff.mpr c11
      subst c11
      have H1 : (some false) = some r := by rw [if_neg (show ¬ (false = true) by decide)] at H; exact H
      clear H
      have H := H1
      clear H1
      obtain rfl := Option.some.inj H
      go_enter Tryd.func63, Tryd.ntmps63
      go_wp2_with (first | ((with_reducible refine gate_dst (N := 5) rfl ?_); refine bX 5 (cs := #[.int .u64 a1_0, .int .u64 a1_1]) (t := 76) ?_; intro gb167 hg w15 hbox hb; have BK167 := aM (hbox); have GW167 := aM (gE hg (below_size (bB HB.out))); have GE167 := GW167; replace HB := aM (below_step (bB HB.out) hb); clear hb hbox hg; obtain ⟨p168, q168, ad168, A168_0, c168_0, e168, hx168_0, hl168_0, hi168_0⟩ := aT (at_L5 HR0.out a2); cases e168; replace hx168_0 := (HB.out.cell (World.block_lt_of_cell? w _ hx168_0)).trans hx168_0; have HR168_0 := aM hi168_0; have HC168_0 := aM hl168_0; clear hi168_0 hl168_0; obtain ⟨p169, q169, ad169, e169, hx169_0⟩ := aT (Kd.at_int HR168_0.out a2); cases e169; replace hx169_0 := (HB.out.cell (World.block_lt_of_cell? w _ hx169_0)).trans hx169_0; obtain ⟨hcz16_0, hcz16_1, hfz16_0, hfz16_1⟩ := cd2 BK167.out) | (go_at_call 68; (with_reducible refine (d_all.calls k _ _ l0 a2 a1_1 0 false _ ?side1 ?side2 A10.out).mono ?_); (case side1 => repeat (first | exact (Kd.C_below HR0.out HB.out) | (with_reducible refine Kd.C_alloc ?_ _) | (with_reducible refine Kd.C_drewN ?_ _) | (with_reducible refine Kd.C_drew ?_))); (case side2 => exact HC0.out); rintro e w' ⟨rfl, ⟨nd, rfl⟩⟩))
      go_ret
      exact ⟨by first | rfl | (simp [errW_none, errW_some] <;> rfl) | (simp [*, errW_none, errW_some] <;> rfl), bB1 HB.out GE167.out⟩
    ·rw [if_neg c9] at H
     have c9b0 : ((rd (rd_L5 l0 a2) a2) == 0) = false := beq_eq_false_iff_ne.mpr c9
     have c9b1 : ((rd (rd_L5 l0 a2) a2) != 0) = true := bne_iff_ne.mpr c9
     obtain rfl := Option.some.inj H
     go_enter Tryd.func63, Tryd.ntmps63
     go_wp2_with (first | ((with_reducible refine gate_dst (N := 5) rfl ?_); refine bX 5 (cs := #[.int .u64 a1_0, .int .u64 a1_1]) (t := 76) ?_; intro gb167 hg w17 hbox hb; have BK167 := aM (hbox); have GW167 := aM (gE hg (below_size (bB HB.out))); have GE167 := GW167; replace HB := aM (below_step (bB HB.out) hb); clear hb hbox hg; obtain ⟨p168, q168, ad168, A168_0, c168_0, e168, hx168_0, hl168_0, hi168_0⟩ := aT (at_L5 HR0.out a2); cases e168; replace hx168_0 := (HB.out.cell (World.block_lt_of_cell? w _ hx168_0)).trans hx168_0; have HR168_0 := aM hi168_0; have HC168_0 := aM hl168_0; clear hi168_0 hl168_0; have p169 : 0 ≤ (a2 : Int) := dT; have q169 : a2 < ((rd_L5 l0 a2).length : Int) := dT; obtain ⟨ad169, e169, hx169_0⟩ := Kd.at_int HR168_0.out a2 p169 q169; cases e169; replace hx169_0 := (HB.out.cell (World.block_lt_of_cell? w _ hx169_0)).trans hx169_0; replace p169 := eq_true p169; replace q169 := eq_true q169))
     go_ret
     exact ⟨by first | rfl | (simp [errW_none, errW_some] <;> rfl) | (simp [*, errW_none, errW_some] <;> rfl), bB1 HB.out GE167.out⟩
   ·rw [if_neg c8] at H
    exact absurd H (by simp)
  ·rw [if_neg c7] at H
   exact absurd H (by simp)
 ·rw [if_neg c6] at H
  exact absurd H (by simp)
def d_fits.f (k : Nat) (l0 : List (List Int)) (a1_0 : Int) (a1_1 : Int) (a2 : Int) (a3 : Int) : Option (Bool) := if a3 = 0 then d_fits0.f k l0 a1_0 a1_1 a2 else if a3 = 1 then d_fits1.f k l0 a1_0 a1_1 a2 else none
theorem d_fits.mono : ∀ a0 a1 a2 a3 a4 k, LeO (d_fits.f k a0 a1 a2 a3 a4) (d_fits.f (k + 1) a0 a1 a2 a3 a4) := by
 intro a0 a1 a2 a3 a4 k
 unfold d_fits.f
 exact LeO.ite (d_fits0.mono _ _ _ _ _) (LeO.ite (d_fits1.mono _ _ _ _ _) (LeO.none _))
theorem d_fits.calls (k : Nat) (A0 : Option Addr) (c0 : Nat) (l0 : List (List Int)) (a1_0 : Int) (a1_1 : Int) (a2 : Int) (a3 : Int) (r : Bool) (w : World) (hr0 : Kd.C (Kd.slice 3 (Kd.int .i64)) w A0 l0.length l0) (hc0 : l0.length ≤ c0) (h : d_fits.f k l0 a1_0 a1_1 a2 a3 = some r) :
  Calls Tryd.prog 63 #[.slice A0 l0.length c0, .agg #[.int .u64 a1_0, .int .u64 a1_1], .int .i64 a2, .int .i64 a3] w fun e w' => e = .returned (.bool r) ∧ Below w.heap.size w w' := by
 unfold d_fits.f at h
 split at h
 ·rename_i h3; subst h3; exact d_fits0.calls k A0 c0 l0 a1_0 a1_1 a2 r w hr0 hc0 h
 ·split at h
  ·rename_i h3; subst h3; exact d_fits1.calls k A0 c0 l0 a1_0 a1_1 a2 r w hr0 hc0 h
  ·cases h


end



end Go.Proofs.YtejchnmhlcbfcaaDoor.Pr
